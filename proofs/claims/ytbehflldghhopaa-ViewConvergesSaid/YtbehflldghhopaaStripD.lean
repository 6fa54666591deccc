/-
  content.Strip at each kind but the first.
  event.Strip, view.stripped, and the reference's strip.
-/
import Derived.Test.YtbehflldghhopaaCopieds
import Derived.Test.YtbehflldghhopaaStripC
import Derived.Test.YtbehflldghhopaaFreshs
import Derived.Test.YtbehflldghhopaaStripS
set_option linter.unusedVariables false
set_option linter.unusedSimpArgs false
namespace Go.Proofs.Ytbehflldghhopaa
section
open Go.RowKit
attribute [local go_sem] Addr.add_mid
theorem heap3 (w : World) (o1 o2 o3 : Obj) : (((w.alloc o1).alloc o2).alloc o3).heap[w.heap.size]? = some o1 ∧ (((w.alloc o1).alloc o2).alloc o3).heap[w.heap.size + 1]? = some o2 ∧ (((w.alloc o1).alloc o2).alloc o3).heap[w.heap.size + 1 + 1]? = some o3 ∧
    w.heap.size + 3 ≤ (((w.alloc o1).alloc o2).alloc o3).heap.size ∧ Below w.heap.size w (((w.alloc o1).alloc o2).alloc o3) := by
  refine ⟨?_, ?_, ?_, by simp, ext_alloc (below_two w o1 o2) o3⟩
  · rw [heap_alloc_old ((w.alloc o1).alloc o2) o3 (by simp; omega)]; exact heap_alloc2_old w o1 o2
  · rw [heap_alloc_old ((w.alloc o1).alloc o2) o3 (by simp)]; exact heap_alloc2_new w o1 o2
  · have := heap_alloc_new ((w.alloc o1).alloc o2) o3
    simpa using this

set_option maxRecDepth 100000 in
set_option maxHeartbeats 2000000 in
theorem CStrip_2 {S : Nat → Prop} {cs : List Value} {c : Con} {w : World} (hr : ConR w S cs c) (hf : c.fit) :
    Calls Try.prog 54 #[.int .i64 2, .agg cs.toArray] w (GivesC S (stripC 2 c) w) := by
  obtain ⟨va, vd, vu, vk, rfl, h1, h2, h3, h4⟩ := hr
  obtain ⟨A1, c1, rfl, _⟩ := h1.form
  obtain ⟨A2, c2, rfl, _⟩ := h2.form
  obtain ⟨A3, c3, rfl, _⟩ := h3.form
  obtain ⟨A4, c4, rfl, _⟩ := h4.form
  obtain ⟨f1, f2, f3, f4⟩ := hf
  have HL := hide (show LevR w S (levCells c.lv (.slice A3 c.lv.users.length c3) (.slice A4 c.lv.kinds.length c4)) c.lv from ⟨_, _, rfl, h3, h4⟩)
  obtain ⟨cs, hcs⟩ : ∃ cs, cs = conCells c (.slice A1 c.allow.length c1) (.slice A2 c.deny.length c2) (.slice A3 c.lv.users.length c3) (.slice A4 c.lv.kinds.length c4) := ⟨_, rfl⟩
  rw [← hcs]
  have HCS := hide hcs
  clear hcs h3 h4
  obtain ⟨B3, B4, B5, hz, hb⟩ := heap3 w (.cells cs.toArray 64) (.cells conZero 64) (.cells conZero 64)
  have HB3 := hide B3; have HB4 := hide B4; have HZ := hide hz; have HB := hide hb
  have m2 : bits BinOp.and IntKind.i64 18 2 = 2 := by decide
  have m4 : bits BinOp.and IntKind.i64 18 4 = 0 := by decide
  have m16 : bits BinOp.and IntKind.i64 18 16 = 16 := by decide
  have m32 : bits BinOp.and IntKind.i64 18 32 = 0 := by decide
  have m64 : bits BinOp.and IntKind.i64 18 64 = 0 := by decide
  have m128 : bits BinOp.and IntKind.i64 18 128 = 0 := by decide
  clear B3 B4 hz hb
  have e1 := box_at HB3.out (j := 1) (u := .int .i64 c.n) (by rw [HCS.out]; rfl)
  go_enter Try.func54, Try.ntmps54
  go_wp2_with (first
    | refine wpList_zeroS rfl rfl strcC ?_
    | (go_at_call 61; refine (keeps_any _ _).mono ?_; rintro e w' ⟨rfl, rfl⟩; simp only [keepsN]; go_simp)
    | refine wpList_store1 rfl (.tmp 29) (.tmp 28) rfl rfl sizeI (w.heap.size + 1 + 1) 1 rfl (.int .i64 c.n) rfl rfl (conZero.toList) 64 B5 (by simp [patch, conZero]) ?_)
  clear B5
  intro w1 B5 g1 hs1
  have B3' := box_grown HB3.out g1 (by omega); have B4' := box_grown HB4.out g1 (by omega)
  have hz' := Nat.le_trans HZ.out g1.size; have hb' := HB.out.grown g1 HB.out.size (fun k hk => by injection hk with hk; omega)
  clear HB3 HB4 HZ HB g1 hs1
  have HB3 := hide B3'; have HB4 := hide B4'; have HZ := hide hz'; have HB := hide hb'
  clear B3' B4' hz' hb'
  have e4 := box_at HB3.out (j := 4) (u := .string c.via) (by rw [HCS.out]; rfl)
  go_wp2_with (refine wpList_store1 rfl (.tmp 41) (.tmp 40) rfl rfl sizeS (w.heap.size + 1 + 1) 4 rfl (.string c.via) rfl rfl (patch (conZero.toList) 1 [.int .i64 c.n]) 64 B5 (by simp [patch, conZero]) ?_)
  clear B5
  intro w2 B5 g2 hs2
  have B3' := box_grown HB3.out g2 (by omega); have B4' := box_grown HB4.out g2 (by omega)
  have hz' := Nat.le_trans HZ.out g2.size; have hb' := HB.out.grown g2 HB.out.size (fun k hk => by injection hk with hk; omega)
  clear HB3 HB4 HZ HB g2 hs2
  have HB3 := hide B3'; have HB4 := hide B4'; have HZ := hide hz'; have HB := hide hb'
  clear B3' B4' hz' hb'
  obtain ⟨CC, hCC⟩ : ∃ CC, CC = conCells (stripC 2 c) (.slice none 0 0) (.slice none 0 0) (.slice none 0 0) (.slice none 0 0) := ⟨_, rfl⟩
  change _ = some (Obj.cells (patch (patch (conZero.toList) 1 [.int .i64 c.n]) 4 [.string c.via]).toArray 64 (0, 0)) at B5
  rw [show patch (patch (conZero.toList) 1 [.int .i64 c.n]) 4 [.string c.via] = CC by rw [hCC]; rfl] at B5
  have hL : CC.length = 16 := by rw [hCC]; rfl
  have hO : ∀ u ∈ CC, u.oneCell' = true := by
    rw [hCC]; intro u hu
    simp only [conCells, levCells, List.cons_append, List.nil_append, List.mem_cons, List.not_mem_nil, or_false] at hu
    rcases hu with rfl | rfl | rfl | rfl | rfl | rfl | rfl | rfl | rfl | rfl | rfl | rfl | rfl | rfl | rfl | rfl <;> rfl
  have HCC := hide hCC
  have B4 := HB4.out
  clear hCC
  go_wp2_with (first
    | refine wpList_loadS rfl (.tmp 5) rfl strcC ⟨w.heap.size + 1 + 1, 0, none⟩ rfl CC hL (box_all B5) ?_
    | refine wpList_storeB rfl (.tmp 4) (.tmp 63) rfl rfl strcC (w.heap.size + 1) 0 rfl CC rfl hL hO conZero.toList 64 B4 (by decide) ?_)
  intro wz Bz gz hsz
  rw [patch_all _ _ (by rw [hL]; rfl)] at Bz
  have hbz := HB.out.grown gz HB.out.size (fun k hk => by injection hk with hk; omega)
  clear B5 B4 gz
  go_wp2_with fail
  exact bodyPost_cell strcC rfl (w.heap.size + 1) rfl rfl Bz (by simpa using hL) ⟨_, rfl, ⟨_, _, _, _, HCC.out, Slc.nil _ _ _, Slc.nil _ _ _, Slc.nil _ _ _, Slc.nil _ _ _⟩, hbz⟩

set_option maxRecDepth 100000 in
set_option maxHeartbeats 2000000 in
theorem CStrip_3 {S : Nat → Prop} {cs : List Value} {c : Con} {w : World} (hr : ConR w S cs c) (hf : c.fit) :
    Calls Try.prog 54 #[.int .i64 3, .agg cs.toArray] w (GivesC S (stripC 3 c) w) := by
  obtain ⟨va, vd, vu, vk, rfl, h1, h2, h3, h4⟩ := hr
  obtain ⟨A1, c1, rfl, _⟩ := h1.form
  obtain ⟨A2, c2, rfl, _⟩ := h2.form
  obtain ⟨A3, c3, rfl, _⟩ := h3.form
  obtain ⟨A4, c4, rfl, _⟩ := h4.form
  obtain ⟨f1, f2, f3, f4⟩ := hf
  have HL := hide (show LevR w S (levCells c.lv (.slice A3 c.lv.users.length c3) (.slice A4 c.lv.kinds.length c4)) c.lv from ⟨_, _, rfl, h3, h4⟩)
  obtain ⟨cs, hcs⟩ : ∃ cs, cs = conCells c (.slice A1 c.allow.length c1) (.slice A2 c.deny.length c2) (.slice A3 c.lv.users.length c3) (.slice A4 c.lv.kinds.length c4) := ⟨_, rfl⟩
  rw [← hcs]
  have HCS := hide hcs
  clear hcs h3 h4
  obtain ⟨B3, B4, B5, hz, hb⟩ := heap3 w (.cells cs.toArray 64) (.cells conZero 64) (.cells conZero 64)
  have HB3 := hide B3; have HB4 := hide B4; have HZ := hide hz; have HB := hide hb
  have m2 : bits BinOp.and IntKind.i64 128 2 = 0 := by decide
  have m4 : bits BinOp.and IntKind.i64 128 4 = 0 := by decide
  have m16 : bits BinOp.and IntKind.i64 128 16 = 0 := by decide
  have m32 : bits BinOp.and IntKind.i64 128 32 = 0 := by decide
  have m64 : bits BinOp.and IntKind.i64 128 64 = 0 := by decide
  have m128 : bits BinOp.and IntKind.i64 128 128 = 128 := by decide
  clear B3 B4 hz hb
  have e7 := box_at HB3.out (j := 7) (u := .slice A3 c.lv.users.length c3) (by rw [HCS.out]; rfl)
  have e8 := box_at HB3.out (j := 8) (u := .slice A4 c.lv.kinds.length c4) (by rw [HCS.out]; rfl)
  have e9 := box_at HB3.out (j := 9) (u := .int .i64 c.lv.user) (by rw [HCS.out]; rfl)
  have e10 := box_at HB3.out (j := 10) (u := .int .i64 c.lv.message) (by rw [HCS.out]; rfl)
  have e11 := box_at HB3.out (j := 11) (u := .int .i64 c.lv.state) (by rw [HCS.out]; rfl)
  have e12 := box_at HB3.out (j := 12) (u := .int .i64 c.lv.invite) (by rw [HCS.out]; rfl)
  have e13 := box_at HB3.out (j := 13) (u := .int .i64 c.lv.kick) (by rw [HCS.out]; rfl)
  have e14 := box_at HB3.out (j := 14) (u := .int .i64 c.lv.ban) (by rw [HCS.out]; rfl)
  have e15 := box_at HB3.out (j := 15) (u := .int .i64 c.lv.redact) (by rw [HCS.out]; rfl)
  go_enter Try.func54, Try.ntmps54
  go_wp2_with (first
    | refine wpList_zeroS rfl rfl strcC ?_
    | (go_at_call 61; refine (keeps_any _ _).mono ?_; rintro e w' ⟨rfl, rfl⟩; simp only [keepsN]; go_simp))
  refine (copied_in HB.out HL.out f3 f4).mono ?_
  rintro x u1 ⟨V1, m1', Vb1, mb1, rfl, s1, sb1, hk1⟩
  have B3' := box_below HB3.out hk1; have B4' := box_below HB4.out hk1; replace B5 := box_below B5 hk1
  have hz' := Nat.le_trans HZ.out hk1.size; have hb' := HB.out.trans (hk1.mono HB.out.size)
  have kz1 := HZ.out
  replace s1 := s1.weak (S' := (w.heap.size + 3 ≤ ·)) (fun b hb _ => Nat.le_trans kz1 hb)
  replace sb1 := sb1.weak (S' := (w.heap.size + 3 ≤ ·)) (fun b hb _ => Nat.le_trans kz1 hb)
  clear HB3 HB4 HZ HB kz1 hk1
  have HB3 := hide B3'; have HB4 := hide B4'; have HZ := hide hz'; have HB := hide hb'
  clear B3' B4' hz' hb'
  go_wp2_with (refine wpList_storeB rfl (.tmp 62) (.tmp 61) rfl rfl strcL (w.heap.size + 1 + 1) 7 rfl [.slice V1 c.lv.users.length m1', .slice Vb1 c.lv.kinds.length mb1, .int .i64 c.lv.user, .int .i64 c.lv.message, .int .i64 c.lv.state, .int .i64 c.lv.invite, .int .i64 c.lv.kick, .int .i64 c.lv.ban, .int .i64 c.lv.redact] rfl rfl (by simp [Value.oneCell']) (conZero.toList) 64 B5 (by simp [patch, conZero]) ?_)
  clear B5
  intro w1 B5 g1 hs1
  have B3' := box_grown HB3.out g1 (by omega); have B4' := box_grown HB4.out g1 (by omega)
  have hz' := Nat.le_trans HZ.out g1.size; have hb' := HB.out.grown g1 HB.out.size (fun k hk => by injection hk with hk; omega)
  replace s1 := s1.grown g1 (fun b hb e => by injection e with e; omega)
  replace sb1 := sb1.grown g1 (fun b hb e => by injection e with e; omega)
  clear HB3 HB4 HZ HB g1 hs1
  have HB3 := hide B3'; have HB4 := hide B4'; have HZ := hide hz'; have HB := hide hb'
  clear B3' B4' hz' hb'
  obtain ⟨CC, hCC⟩ : ∃ CC, CC = conCells (stripC 3 c) (.slice none 0 0) (.slice none 0 0) (.slice V1 c.lv.users.length m1') (.slice Vb1 c.lv.kinds.length mb1) := ⟨_, rfl⟩
  change _ = some (Obj.cells (patch (conZero.toList) 7 [.slice V1 c.lv.users.length m1', .slice Vb1 c.lv.kinds.length mb1, .int .i64 c.lv.user, .int .i64 c.lv.message, .int .i64 c.lv.state, .int .i64 c.lv.invite, .int .i64 c.lv.kick, .int .i64 c.lv.ban, .int .i64 c.lv.redact]).toArray 64 (0, 0)) at B5
  rw [show patch (conZero.toList) 7 [.slice V1 c.lv.users.length m1', .slice Vb1 c.lv.kinds.length mb1, .int .i64 c.lv.user, .int .i64 c.lv.message, .int .i64 c.lv.state, .int .i64 c.lv.invite, .int .i64 c.lv.kick, .int .i64 c.lv.ban, .int .i64 c.lv.redact] = CC by rw [hCC]; rfl] at B5
  have hL : CC.length = 16 := by rw [hCC]; rfl
  have hO : ∀ u ∈ CC, u.oneCell' = true := by
    rw [hCC]; intro u hu
    simp only [conCells, levCells, List.cons_append, List.nil_append, List.mem_cons, List.not_mem_nil, or_false] at hu
    rcases hu with rfl | rfl | rfl | rfl | rfl | rfl | rfl | rfl | rfl | rfl | rfl | rfl | rfl | rfl | rfl | rfl <;> rfl
  have HCC := hide hCC
  have B4 := HB4.out
  clear hCC
  go_wp2_with (first
    | refine wpList_loadS rfl (.tmp 5) rfl strcC ⟨w.heap.size + 1 + 1, 0, none⟩ rfl CC hL (box_all B5) ?_
    | refine wpList_storeB rfl (.tmp 4) (.tmp 63) rfl rfl strcC (w.heap.size + 1) 0 rfl CC rfl hL hO conZero.toList 64 B4 (by decide) ?_)
  intro wz Bz gz hsz
  rw [patch_all _ _ (by rw [hL]; rfl)] at Bz
  have hbz := HB.out.grown gz HB.out.size (fun k hk => by injection hk with hk; omega)
  replace s1 := (s1.grown gz (fun b hb e => by injection e with e; omega)).weak (S' := fun b => S b ∨ w.heap.size ≤ b) (fun b hb _ => .inr (by omega))
  replace sb1 := (sb1.grown gz (fun b hb e => by injection e with e; omega)).weak (S' := fun b => S b ∨ w.heap.size ≤ b) (fun b hb _ => .inr (by omega))
  clear B5 B4 gz
  go_wp2_with fail
  exact bodyPost_cell strcC rfl (w.heap.size + 1) rfl rfl Bz (by simpa using hL) ⟨_, rfl, ⟨_, _, _, _, HCC.out, Slc.nil _ _ _, Slc.nil _ _ _, s1, sb1⟩, hbz⟩

set_option maxRecDepth 100000 in
set_option maxHeartbeats 2000000 in
theorem CStrip_4 {S : Nat → Prop} {cs : List Value} {c : Con} {w : World} (hr : ConR w S cs c) (hf : c.fit) :
    Calls Try.prog 54 #[.int .i64 4, .agg cs.toArray] w (GivesC S (stripC 4 c) w) := by
  obtain ⟨va, vd, vu, vk, rfl, h1, h2, h3, h4⟩ := hr
  obtain ⟨A1, c1, rfl, _⟩ := h1.form
  obtain ⟨A2, c2, rfl, _⟩ := h2.form
  obtain ⟨A3, c3, rfl, _⟩ := h3.form
  obtain ⟨A4, c4, rfl, _⟩ := h4.form
  obtain ⟨f1, f2, f3, f4⟩ := hf
  have HL := hide (show LevR w S (levCells c.lv (.slice A3 c.lv.users.length c3) (.slice A4 c.lv.kinds.length c4)) c.lv from ⟨_, _, rfl, h3, h4⟩)
  obtain ⟨cs, hcs⟩ : ∃ cs, cs = conCells c (.slice A1 c.allow.length c1) (.slice A2 c.deny.length c2) (.slice A3 c.lv.users.length c3) (.slice A4 c.lv.kinds.length c4) := ⟨_, rfl⟩
  rw [← hcs]
  have HCS := hide hcs
  clear hcs h3 h4
  obtain ⟨B3, B4, B5, hz, hb⟩ := heap3 w (.cells cs.toArray 64) (.cells conZero 64) (.cells conZero 64)
  have HB3 := hide B3; have HB4 := hide B4; have HZ := hide hz; have HB := hide hb
  have m2 : bits BinOp.and IntKind.i64 34 2 = 2 := by decide
  have m4 : bits BinOp.and IntKind.i64 34 4 = 0 := by decide
  have m16 : bits BinOp.and IntKind.i64 34 16 = 0 := by decide
  have m32 : bits BinOp.and IntKind.i64 34 32 = 32 := by decide
  have m64 : bits BinOp.and IntKind.i64 34 64 = 0 := by decide
  have m128 : bits BinOp.and IntKind.i64 34 128 = 0 := by decide
  clear B3 B4 hz hb
  have e1 := box_at HB3.out (j := 1) (u := .int .i64 c.n) (by rw [HCS.out]; rfl)
  go_enter Try.func54, Try.ntmps54
  go_wp2_with (first
    | refine wpList_zeroS rfl rfl strcC ?_
    | (go_at_call 61; refine (keeps_any _ _).mono ?_; rintro e w' ⟨rfl, rfl⟩; simp only [keepsN]; go_simp)
    | refine wpList_store1 rfl (.tmp 29) (.tmp 28) rfl rfl sizeI (w.heap.size + 1 + 1) 1 rfl (.int .i64 c.n) rfl rfl (conZero.toList) 64 B5 (by simp [patch, conZero]) ?_)
  clear B5
  intro w1 B5 g1 hs1
  have B3' := box_grown HB3.out g1 (by omega); have B4' := box_grown HB4.out g1 (by omega)
  have hz' := Nat.le_trans HZ.out g1.size; have hb' := HB.out.grown g1 HB.out.size (fun k hk => by injection hk with hk; omega)
  clear HB3 HB4 HZ HB g1 hs1
  have HB3 := hide B3'; have HB4 := hide B4'; have HZ := hide hz'; have HB := hide hb'
  clear B3' B4' hz' hb'
  have e5 := box_at HB3.out (j := 5) (u := .slice A1 c.allow.length c1) (by rw [HCS.out]; rfl)
  go_wp2_with fail
  refine (texts_lit (h1.ext HB.out) f1).mono ?_
  rintro x u2 ⟨V2, m2', rfl, s2, hk2⟩
  have B3' := box_below HB3.out hk2; have B4' := box_below HB4.out hk2; replace B5 := box_below B5 hk2
  have hz' := Nat.le_trans HZ.out hk2.size; have hb' := HB.out.trans (hk2.mono HB.out.size)
  have kz2 := HZ.out
  replace s2 := s2.weak (S' := (w.heap.size + 3 ≤ ·)) (fun b hb _ => Nat.le_trans kz2 hb)
  clear HB3 HB4 HZ HB kz2 hk2
  have HB3 := hide B3'; have HB4 := hide B4'; have HZ := hide hz'; have HB := hide hb'
  clear B3' B4' hz' hb'
  go_wp2_with (refine wpList_store1 rfl (.tmp 48) (.tmp 47) rfl rfl sizeT (w.heap.size + 1 + 1) 5 rfl (.slice V2 c.allow.length m2') rfl rfl (patch (conZero.toList) 1 [.int .i64 c.n]) 64 B5 (by simp [patch, conZero]) ?_)
  clear B5
  intro w2 B5 g2 hs2
  have B3' := box_grown HB3.out g2 (by omega); have B4' := box_grown HB4.out g2 (by omega)
  have hz' := Nat.le_trans HZ.out g2.size; have hb' := HB.out.grown g2 HB.out.size (fun k hk => by injection hk with hk; omega)
  replace s2 := s2.grown g2 (fun b hb e => by injection e with e; omega)
  clear HB3 HB4 HZ HB g2 hs2
  have HB3 := hide B3'; have HB4 := hide B4'; have HZ := hide hz'; have HB := hide hb'
  clear B3' B4' hz' hb'
  obtain ⟨CC, hCC⟩ : ∃ CC, CC = conCells (stripC 4 c) (.slice V2 c.allow.length m2') (.slice none 0 0) (.slice none 0 0) (.slice none 0 0) := ⟨_, rfl⟩
  change _ = some (Obj.cells (patch (patch (conZero.toList) 1 [.int .i64 c.n]) 5 [.slice V2 c.allow.length m2']).toArray 64 (0, 0)) at B5
  rw [show patch (patch (conZero.toList) 1 [.int .i64 c.n]) 5 [.slice V2 c.allow.length m2'] = CC by rw [hCC]; rfl] at B5
  have hL : CC.length = 16 := by rw [hCC]; rfl
  have hO : ∀ u ∈ CC, u.oneCell' = true := by
    rw [hCC]; intro u hu
    simp only [conCells, levCells, List.cons_append, List.nil_append, List.mem_cons, List.not_mem_nil, or_false] at hu
    rcases hu with rfl | rfl | rfl | rfl | rfl | rfl | rfl | rfl | rfl | rfl | rfl | rfl | rfl | rfl | rfl | rfl <;> rfl
  have HCC := hide hCC
  have B4 := HB4.out
  clear hCC
  go_wp2_with (first
    | refine wpList_loadS rfl (.tmp 5) rfl strcC ⟨w.heap.size + 1 + 1, 0, none⟩ rfl CC hL (box_all B5) ?_
    | refine wpList_storeB rfl (.tmp 4) (.tmp 63) rfl rfl strcC (w.heap.size + 1) 0 rfl CC rfl hL hO conZero.toList 64 B4 (by decide) ?_)
  intro wz Bz gz hsz
  rw [patch_all _ _ (by rw [hL]; rfl)] at Bz
  have hbz := HB.out.grown gz HB.out.size (fun k hk => by injection hk with hk; omega)
  replace s2 := (s2.grown gz (fun b hb e => by injection e with e; omega)).weak (S' := fun b => S b ∨ w.heap.size ≤ b) (fun b hb _ => .inr (by omega))
  clear B5 B4 gz
  go_wp2_with fail
  exact bodyPost_cell strcC rfl (w.heap.size + 1) rfl rfl Bz (by simpa using hL) ⟨_, rfl, ⟨_, _, _, _, HCC.out, s2, Slc.nil _ _ _, Slc.nil _ _ _, Slc.nil _ _ _⟩, hbz⟩

set_option maxRecDepth 100000 in
set_option maxHeartbeats 2000000 in
theorem CStrip_5 {S : Nat → Prop} {cs : List Value} {c : Con} {w : World} (hr : ConR w S cs c) (hf : c.fit) :
    Calls Try.prog 54 #[.int .i64 5, .agg cs.toArray] w (GivesC S (stripC 5 c) w) := by
  obtain ⟨va, vd, vu, vk, rfl, h1, h2, h3, h4⟩ := hr
  obtain ⟨A1, c1, rfl, _⟩ := h1.form
  obtain ⟨A2, c2, rfl, _⟩ := h2.form
  obtain ⟨A3, c3, rfl, _⟩ := h3.form
  obtain ⟨A4, c4, rfl, _⟩ := h4.form
  obtain ⟨f1, f2, f3, f4⟩ := hf
  have HL := hide (show LevR w S (levCells c.lv (.slice A3 c.lv.users.length c3) (.slice A4 c.lv.kinds.length c4)) c.lv from ⟨_, _, rfl, h3, h4⟩)
  obtain ⟨cs, hcs⟩ : ∃ cs, cs = conCells c (.slice A1 c.allow.length c1) (.slice A2 c.deny.length c2) (.slice A3 c.lv.users.length c3) (.slice A4 c.lv.kinds.length c4) := ⟨_, rfl⟩
  rw [← hcs]
  have HCS := hide hcs
  clear hcs h3 h4
  obtain ⟨B3, B4, B5, hz, hb⟩ := heap3 w (.cells cs.toArray 64) (.cells conZero 64) (.cells conZero 64)
  have HB3 := hide B3; have HB4 := hide B4; have HZ := hide hz; have HB := hide hb
  have m2 : bits BinOp.and IntKind.i64 2 2 = 2 := by decide
  have m4 : bits BinOp.and IntKind.i64 2 4 = 0 := by decide
  have m16 : bits BinOp.and IntKind.i64 2 16 = 0 := by decide
  have m32 : bits BinOp.and IntKind.i64 2 32 = 0 := by decide
  have m64 : bits BinOp.and IntKind.i64 2 64 = 0 := by decide
  have m128 : bits BinOp.and IntKind.i64 2 128 = 0 := by decide
  clear B3 B4 hz hb
  have e1 := box_at HB3.out (j := 1) (u := .int .i64 c.n) (by rw [HCS.out]; rfl)
  go_enter Try.func54, Try.ntmps54
  go_wp2_with (first
    | refine wpList_zeroS rfl rfl strcC ?_
    | (go_at_call 61; refine (keeps_any _ _).mono ?_; rintro e w' ⟨rfl, rfl⟩; simp only [keepsN]; go_simp)
    | refine wpList_store1 rfl (.tmp 29) (.tmp 28) rfl rfl sizeI (w.heap.size + 1 + 1) 1 rfl (.int .i64 c.n) rfl rfl (conZero.toList) 64 B5 (by simp [patch, conZero]) ?_)
  clear B5
  intro w1 B5 g1 hs1
  have B3' := box_grown HB3.out g1 (by omega); have B4' := box_grown HB4.out g1 (by omega)
  have hz' := Nat.le_trans HZ.out g1.size; have hb' := HB.out.grown g1 HB.out.size (fun k hk => by injection hk with hk; omega)
  clear HB3 HB4 HZ HB g1 hs1
  have HB3 := hide B3'; have HB4 := hide B4'; have HZ := hide hz'; have HB := hide hb'
  clear B3' B4' hz' hb'
  obtain ⟨CC, hCC⟩ : ∃ CC, CC = conCells (stripC 5 c) (.slice none 0 0) (.slice none 0 0) (.slice none 0 0) (.slice none 0 0) := ⟨_, rfl⟩
  change _ = some (Obj.cells (patch (conZero.toList) 1 [.int .i64 c.n]).toArray 64 (0, 0)) at B5
  rw [show patch (conZero.toList) 1 [.int .i64 c.n] = CC by rw [hCC]; rfl] at B5
  have hL : CC.length = 16 := by rw [hCC]; rfl
  have hO : ∀ u ∈ CC, u.oneCell' = true := by
    rw [hCC]; intro u hu
    simp only [conCells, levCells, List.cons_append, List.nil_append, List.mem_cons, List.not_mem_nil, or_false] at hu
    rcases hu with rfl | rfl | rfl | rfl | rfl | rfl | rfl | rfl | rfl | rfl | rfl | rfl | rfl | rfl | rfl | rfl <;> rfl
  have HCC := hide hCC
  have B4 := HB4.out
  clear hCC
  go_wp2_with (first
    | refine wpList_loadS rfl (.tmp 5) rfl strcC ⟨w.heap.size + 1 + 1, 0, none⟩ rfl CC hL (box_all B5) ?_
    | refine wpList_storeB rfl (.tmp 4) (.tmp 63) rfl rfl strcC (w.heap.size + 1) 0 rfl CC rfl hL hO conZero.toList 64 B4 (by decide) ?_)
  intro wz Bz gz hsz
  rw [patch_all _ _ (by rw [hL]; rfl)] at Bz
  have hbz := HB.out.grown gz HB.out.size (fun k hk => by injection hk with hk; omega)
  clear B5 B4 gz
  go_wp2_with fail
  exact bodyPost_cell strcC rfl (w.heap.size + 1) rfl rfl Bz (by simpa using hL) ⟨_, rfl, ⟨_, _, _, _, HCC.out, Slc.nil _ _ _, Slc.nil _ _ _, Slc.nil _ _ _, Slc.nil _ _ _⟩, hbz⟩

set_option maxRecDepth 100000 in
set_option maxHeartbeats 2000000 in
theorem CStrip_6 {S : Nat → Prop} {cs : List Value} {c : Con} {w : World} (hr : ConR w S cs c) (hf : c.fit) :
    Calls Try.prog 54 #[.int .i64 6, .agg cs.toArray] w (GivesC S (stripC 6 c) w) := by
  obtain ⟨va, vd, vu, vk, rfl, h1, h2, h3, h4⟩ := hr
  obtain ⟨A1, c1, rfl, _⟩ := h1.form
  obtain ⟨A2, c2, rfl, _⟩ := h2.form
  obtain ⟨A3, c3, rfl, _⟩ := h3.form
  obtain ⟨A4, c4, rfl, _⟩ := h4.form
  obtain ⟨f1, f2, f3, f4⟩ := hf
  have HL := hide (show LevR w S (levCells c.lv (.slice A3 c.lv.users.length c3) (.slice A4 c.lv.kinds.length c4)) c.lv from ⟨_, _, rfl, h3, h4⟩)
  obtain ⟨cs, hcs⟩ : ∃ cs, cs = conCells c (.slice A1 c.allow.length c1) (.slice A2 c.deny.length c2) (.slice A3 c.lv.users.length c3) (.slice A4 c.lv.kinds.length c4) := ⟨_, rfl⟩
  rw [← hcs]
  have HCS := hide hcs
  clear hcs h3 h4
  obtain ⟨B3, B4, B5, hz, hb⟩ := heap3 w (.cells cs.toArray 64) (.cells conZero 64) (.cells conZero 64)
  have HB3 := hide B3; have HB4 := hide B4; have HZ := hide hz; have HB := hide hb
  have m2 : bits BinOp.and IntKind.i64 96 2 = 0 := by decide
  have m4 : bits BinOp.and IntKind.i64 96 4 = 0 := by decide
  have m16 : bits BinOp.and IntKind.i64 96 16 = 0 := by decide
  have m32 : bits BinOp.and IntKind.i64 96 32 = 32 := by decide
  have m64 : bits BinOp.and IntKind.i64 96 64 = 64 := by decide
  have m128 : bits BinOp.and IntKind.i64 96 128 = 0 := by decide
  clear B3 B4 hz hb
  have e5 := box_at HB3.out (j := 5) (u := .slice A1 c.allow.length c1) (by rw [HCS.out]; rfl)
  go_enter Try.func54, Try.ntmps54
  go_wp2_with (first
    | refine wpList_zeroS rfl rfl strcC ?_
    | (go_at_call 61; refine (keeps_any _ _).mono ?_; rintro e w' ⟨rfl, rfl⟩; simp only [keepsN]; go_simp))
  refine (texts_lit (h1.ext HB.out) f1).mono ?_
  rintro x u1 ⟨V1, m1', rfl, s1, hk1⟩
  have B3' := box_below HB3.out hk1; have B4' := box_below HB4.out hk1; replace B5 := box_below B5 hk1
  have hz' := Nat.le_trans HZ.out hk1.size; have hb' := HB.out.trans (hk1.mono HB.out.size)
  have kz1 := HZ.out
  replace s1 := s1.weak (S' := (w.heap.size + 3 ≤ ·)) (fun b hb _ => Nat.le_trans kz1 hb)
  clear HB3 HB4 HZ HB kz1 hk1
  have HB3 := hide B3'; have HB4 := hide B4'; have HZ := hide hz'; have HB := hide hb'
  clear B3' B4' hz' hb'
  go_wp2_with (refine wpList_store1 rfl (.tmp 48) (.tmp 47) rfl rfl sizeT (w.heap.size + 1 + 1) 5 rfl (.slice V1 c.allow.length m1') rfl rfl (conZero.toList) 64 B5 (by simp [patch, conZero]) ?_)
  clear B5
  intro w1 B5 g1 hs1
  have B3' := box_grown HB3.out g1 (by omega); have B4' := box_grown HB4.out g1 (by omega)
  have hz' := Nat.le_trans HZ.out g1.size; have hb' := HB.out.grown g1 HB.out.size (fun k hk => by injection hk with hk; omega)
  replace s1 := s1.grown g1 (fun b hb e => by injection e with e; omega)
  clear HB3 HB4 HZ HB g1 hs1
  have HB3 := hide B3'; have HB4 := hide B4'; have HZ := hide hz'; have HB := hide hb'
  clear B3' B4' hz' hb'
  have e6 := box_at HB3.out (j := 6) (u := .slice A2 c.deny.length c2) (by rw [HCS.out]; rfl)
  go_wp2_with fail
  refine (texts_lit (h2.ext HB.out) f2).mono ?_
  rintro x u2 ⟨V2, m2', rfl, s2, hk2⟩
  have B3' := box_below HB3.out hk2; have B4' := box_below HB4.out hk2; replace B5 := box_below B5 hk2
  have hz' := Nat.le_trans HZ.out hk2.size; have hb' := HB.out.trans (hk2.mono HB.out.size)
  have kz2 := HZ.out
  replace s1 := s1.ext hk2
  replace s2 := s2.weak (S' := (w.heap.size + 3 ≤ ·)) (fun b hb _ => Nat.le_trans kz2 hb)
  clear HB3 HB4 HZ HB kz2 hk2
  have HB3 := hide B3'; have HB4 := hide B4'; have HZ := hide hz'; have HB := hide hb'
  clear B3' B4' hz' hb'
  go_wp2_with (refine wpList_store1 rfl (.tmp 55) (.tmp 54) rfl rfl sizeT (w.heap.size + 1 + 1) 6 rfl (.slice V2 c.deny.length m2') rfl rfl (patch (conZero.toList) 5 [.slice V1 c.allow.length m1']) 64 B5 (by simp [patch, conZero]) ?_)
  clear B5
  intro w2 B5 g2 hs2
  have B3' := box_grown HB3.out g2 (by omega); have B4' := box_grown HB4.out g2 (by omega)
  have hz' := Nat.le_trans HZ.out g2.size; have hb' := HB.out.grown g2 HB.out.size (fun k hk => by injection hk with hk; omega)
  replace s1 := s1.grown g2 (fun b hb e => by injection e with e; omega)
  replace s2 := s2.grown g2 (fun b hb e => by injection e with e; omega)
  clear HB3 HB4 HZ HB g2 hs2
  have HB3 := hide B3'; have HB4 := hide B4'; have HZ := hide hz'; have HB := hide hb'
  clear B3' B4' hz' hb'
  obtain ⟨CC, hCC⟩ : ∃ CC, CC = conCells (stripC 6 c) (.slice V1 c.allow.length m1') (.slice V2 c.deny.length m2') (.slice none 0 0) (.slice none 0 0) := ⟨_, rfl⟩
  change _ = some (Obj.cells (patch (patch (conZero.toList) 5 [.slice V1 c.allow.length m1']) 6 [.slice V2 c.deny.length m2']).toArray 64 (0, 0)) at B5
  rw [show patch (patch (conZero.toList) 5 [.slice V1 c.allow.length m1']) 6 [.slice V2 c.deny.length m2'] = CC by rw [hCC]; rfl] at B5
  have hL : CC.length = 16 := by rw [hCC]; rfl
  have hO : ∀ u ∈ CC, u.oneCell' = true := by
    rw [hCC]; intro u hu
    simp only [conCells, levCells, List.cons_append, List.nil_append, List.mem_cons, List.not_mem_nil, or_false] at hu
    rcases hu with rfl | rfl | rfl | rfl | rfl | rfl | rfl | rfl | rfl | rfl | rfl | rfl | rfl | rfl | rfl | rfl <;> rfl
  have HCC := hide hCC
  have B4 := HB4.out
  clear hCC
  go_wp2_with (first
    | refine wpList_loadS rfl (.tmp 5) rfl strcC ⟨w.heap.size + 1 + 1, 0, none⟩ rfl CC hL (box_all B5) ?_
    | refine wpList_storeB rfl (.tmp 4) (.tmp 63) rfl rfl strcC (w.heap.size + 1) 0 rfl CC rfl hL hO conZero.toList 64 B4 (by decide) ?_)
  intro wz Bz gz hsz
  rw [patch_all _ _ (by rw [hL]; rfl)] at Bz
  have hbz := HB.out.grown gz HB.out.size (fun k hk => by injection hk with hk; omega)
  replace s1 := (s1.grown gz (fun b hb e => by injection e with e; omega)).weak (S' := fun b => S b ∨ w.heap.size ≤ b) (fun b hb _ => .inr (by omega))
  replace s2 := (s2.grown gz (fun b hb e => by injection e with e; omega)).weak (S' := fun b => S b ∨ w.heap.size ≤ b) (fun b hb _ => .inr (by omega))
  clear B5 B4 gz
  go_wp2_with fail
  exact bodyPost_cell strcC rfl (w.heap.size + 1) rfl rfl Bz (by simpa using hL) ⟨_, rfl, ⟨_, _, _, _, HCC.out, s1, s2, Slc.nil _ _ _, Slc.nil _ _ _⟩, hbz⟩

set_option maxRecDepth 100000 in
set_option maxHeartbeats 2000000 in
theorem CStrip_14 {S : Nat → Prop} {cs : List Value} {c : Con} {w : World} (hr : ConR w S cs c) (hf : c.fit) :
    Calls Try.prog 54 #[.int .i64 14, .agg cs.toArray] w (GivesC S (stripC 14 c) w) := by
  obtain ⟨va, vd, vu, vk, rfl, h1, h2, h3, h4⟩ := hr
  obtain ⟨A1, c1, rfl, _⟩ := h1.form
  obtain ⟨A2, c2, rfl, _⟩ := h2.form
  obtain ⟨A3, c3, rfl, _⟩ := h3.form
  obtain ⟨A4, c4, rfl, _⟩ := h4.form
  obtain ⟨f1, f2, f3, f4⟩ := hf
  have HL := hide (show LevR w S (levCells c.lv (.slice A3 c.lv.users.length c3) (.slice A4 c.lv.kinds.length c4)) c.lv from ⟨_, _, rfl, h3, h4⟩)
  obtain ⟨cs, hcs⟩ : ∃ cs, cs = conCells c (.slice A1 c.allow.length c1) (.slice A2 c.deny.length c2) (.slice A3 c.lv.users.length c3) (.slice A4 c.lv.kinds.length c4) := ⟨_, rfl⟩
  rw [← hcs]
  have HCS := hide hcs
  clear hcs h3 h4
  obtain ⟨B3, B4, B5, hz, hb⟩ := heap3 w (.cells cs.toArray 64) (.cells conZero 64) (.cells conZero 64)
  have HB3 := hide B3; have HB4 := hide B4; have HZ := hide hz; have HB := hide hb
  have m2 : bits BinOp.and IntKind.i64 4 2 = 0 := by decide
  have m4 : bits BinOp.and IntKind.i64 4 4 = 4 := by decide
  have m16 : bits BinOp.and IntKind.i64 4 16 = 0 := by decide
  have m32 : bits BinOp.and IntKind.i64 4 32 = 0 := by decide
  have m64 : bits BinOp.and IntKind.i64 4 64 = 0 := by decide
  have m128 : bits BinOp.and IntKind.i64 4 128 = 0 := by decide
  clear B3 B4 hz hb
  have e2 := box_at HB3.out (j := 2) (u := .int .i64 c.target) (by rw [HCS.out]; rfl)
  go_enter Try.func54, Try.ntmps54
  go_wp2_with (first
    | refine wpList_zeroS rfl rfl strcC ?_
    | (go_at_call 61; refine (keeps_any _ _).mono ?_; rintro e w' ⟨rfl, rfl⟩; simp only [keepsN]; go_simp)
    | refine wpList_store1 rfl (.tmp 35) (.tmp 34) rfl rfl sizeI (w.heap.size + 1 + 1) 2 rfl (.int .i64 c.target) rfl rfl (conZero.toList) 64 B5 (by simp [patch, conZero]) ?_)
  clear B5
  intro w1 B5 g1 hs1
  have B3' := box_grown HB3.out g1 (by omega); have B4' := box_grown HB4.out g1 (by omega)
  have hz' := Nat.le_trans HZ.out g1.size; have hb' := HB.out.grown g1 HB.out.size (fun k hk => by injection hk with hk; omega)
  clear HB3 HB4 HZ HB g1 hs1
  have HB3 := hide B3'; have HB4 := hide B4'; have HZ := hide hz'; have HB := hide hb'
  clear B3' B4' hz' hb'
  obtain ⟨CC, hCC⟩ : ∃ CC, CC = conCells (stripC 14 c) (.slice none 0 0) (.slice none 0 0) (.slice none 0 0) (.slice none 0 0) := ⟨_, rfl⟩
  change _ = some (Obj.cells (patch (conZero.toList) 2 [.int .i64 c.target]).toArray 64 (0, 0)) at B5
  rw [show patch (conZero.toList) 2 [.int .i64 c.target] = CC by rw [hCC]; rfl] at B5
  have hL : CC.length = 16 := by rw [hCC]; rfl
  have hO : ∀ u ∈ CC, u.oneCell' = true := by
    rw [hCC]; intro u hu
    simp only [conCells, levCells, List.cons_append, List.nil_append, List.mem_cons, List.not_mem_nil, or_false] at hu
    rcases hu with rfl | rfl | rfl | rfl | rfl | rfl | rfl | rfl | rfl | rfl | rfl | rfl | rfl | rfl | rfl | rfl <;> rfl
  have HCC := hide hCC
  have B4 := HB4.out
  clear hCC
  go_wp2_with (first
    | refine wpList_loadS rfl (.tmp 5) rfl strcC ⟨w.heap.size + 1 + 1, 0, none⟩ rfl CC hL (box_all B5) ?_
    | refine wpList_storeB rfl (.tmp 4) (.tmp 63) rfl rfl strcC (w.heap.size + 1) 0 rfl CC rfl hL hO conZero.toList 64 B4 (by decide) ?_)
  intro wz Bz gz hsz
  rw [patch_all _ _ (by rw [hL]; rfl)] at Bz
  have hbz := HB.out.grown gz HB.out.size (fun k hk => by injection hk with hk; omega)
  clear B5 B4 gz
  go_wp2_with fail
  exact bodyPost_cell strcC rfl (w.heap.size + 1) rfl rfl Bz (by simpa using hL) ⟨_, rfl, ⟨_, _, _, _, HCC.out, Slc.nil _ _ _, Slc.nil _ _ _, Slc.nil _ _ _, Slc.nil _ _ _⟩, hbz⟩

set_option maxRecDepth 100000 in
set_option maxHeartbeats 2000000 in
theorem CStrip_no {S : Nat → Prop} {cs : List Value} {c : Con} {k : Int} (hk1 : (k == 1) = false) (hk : Hid (keepsN k = 0)) {w : World} (hr : ConR w S cs c) (hf : c.fit) :
    Calls Try.prog 54 #[.int .i64 k, .agg cs.toArray] w (GivesC S (Con.zero) w) := by
  obtain ⟨va, vd, vu, vk, rfl, h1, h2, h3, h4⟩ := hr
  obtain ⟨A1, c1, rfl, _⟩ := h1.form
  obtain ⟨A2, c2, rfl, _⟩ := h2.form
  obtain ⟨A3, c3, rfl, _⟩ := h3.form
  obtain ⟨A4, c4, rfl, _⟩ := h4.form
  obtain ⟨f1, f2, f3, f4⟩ := hf
  have HL := hide (show LevR w S (levCells c.lv (.slice A3 c.lv.users.length c3) (.slice A4 c.lv.kinds.length c4)) c.lv from ⟨_, _, rfl, h3, h4⟩)
  obtain ⟨cs, hcs⟩ : ∃ cs, cs = conCells c (.slice A1 c.allow.length c1) (.slice A2 c.deny.length c2) (.slice A3 c.lv.users.length c3) (.slice A4 c.lv.kinds.length c4) := ⟨_, rfl⟩
  rw [← hcs]
  have HCS := hide hcs
  clear hcs h3 h4
  obtain ⟨B3, B4, B5, hz, hb⟩ := heap3 w (.cells cs.toArray 64) (.cells conZero 64) (.cells conZero 64)
  have HB3 := hide B3; have HB4 := hide B4; have HZ := hide hz; have HB := hide hb
  have m2 : bits BinOp.and IntKind.i64 0 2 = 0 := by decide
  have m4 : bits BinOp.and IntKind.i64 0 4 = 0 := by decide
  have m16 : bits BinOp.and IntKind.i64 0 16 = 0 := by decide
  have m32 : bits BinOp.and IntKind.i64 0 32 = 0 := by decide
  have m64 : bits BinOp.and IntKind.i64 0 64 = 0 := by decide
  have m128 : bits BinOp.and IntKind.i64 0 128 = 0 := by decide
  clear B3 B4 hz hb
  obtain ⟨CC, hCC⟩ : ∃ CC, CC = conCells Con.zero (.slice none 0 0) (.slice none 0 0) (.slice none 0 0) (.slice none 0 0) := ⟨_, rfl⟩
  change _ = some (Obj.cells (conZero.toList).toArray 64 (0, 0)) at B5
  rw [show conZero.toList = CC by rw [hCC]; rfl] at B5
  have hL : CC.length = 16 := by rw [hCC]; rfl
  have hO : ∀ u ∈ CC, u.oneCell' = true := by
    rw [hCC]; intro u hu
    simp only [conCells, levCells, List.cons_append, List.nil_append, List.mem_cons, List.not_mem_nil, or_false] at hu
    rcases hu with rfl | rfl | rfl | rfl | rfl | rfl | rfl | rfl | rfl | rfl | rfl | rfl | rfl | rfl | rfl | rfl <;> rfl
  have HCC := hide hCC
  have B4 := HB4.out
  clear hCC
  go_enter Try.func54, Try.ntmps54
  go_wp2_with (first
    | refine wpList_zeroS rfl rfl strcC ?_
    | (go_at_call 61; refine (keeps_any _ _).mono ?_; rintro e w' ⟨rfl, rfl⟩; rw [hk.out])
    | refine wpList_loadS rfl (.tmp 5) rfl strcC ⟨w.heap.size + 1 + 1, 0, none⟩ rfl CC hL (box_all B5) ?_
    | refine wpList_storeB rfl (.tmp 4) (.tmp 63) rfl rfl strcC (w.heap.size + 1) 0 rfl CC rfl hL hO conZero.toList 64 B4 (by decide) ?_)
  intro wz Bz gz hsz
  rw [patch_all _ _ (by rw [hL]; rfl)] at Bz
  have hbz := HB.out.grown gz HB.out.size (fun k hk => by injection hk with hk; omega)
  clear B5 B4 gz
  go_wp2_with fail
  exact bodyPost_cell strcC rfl (w.heap.size + 1) rfl rfl Bz (by simpa using hL) ⟨_, rfl, ⟨_, _, _, _, HCC.out, Slc.nil _ _ _, Slc.nil _ _ _, Slc.nil _ _ _, Slc.nil _ _ _⟩, hbz⟩

theorem CStrip_any {S : Nat → Prop} {cs : List Value} {c : Con} {k : Int} {w : World} (hr : ConR w S cs c) (hf : c.fit) :
    Calls Try.prog 54 #[.int .i64 k, .agg cs.toArray] w (GivesC S (stripC k c) w) := by
  rcases kinds_cases k with rfl | rfl | rfl | rfl | rfl | rfl | rfl | hk
  · exact CStrip_1 hr hf
  · exact CStrip_2 hr hf
  · exact CStrip_3 hr hf
  · exact CStrip_4 hr hf
  · exact CStrip_5 hr hf
  · exact CStrip_6 hr hf
  · exact CStrip_14 hr hf
  · rw [show stripC k c = Con.zero by simp [stripC, hk]]
    exact CStrip_no (by simpa using hk.1) (show keepsN k = 0 by simp [keepsN, hk]) hr hf
end

section
open Go.RowKit
attribute [local go_sem] Addr.add_mid

set_option maxRecDepth 100000 in
set_option maxHeartbeats 1000000 in
theorem EStrip_any {S : Nat → Prop} {cs : List Value} {e : Ev} {w : World} (he : EvR w S cs e) (hf : e.con.fit) :
    Calls Try.prog 50 #[.agg cs.toArray] w (GivesE S (stripE e) w) := by
  have hn := he.length
  have h3 := he.some3
  have hone := he.one
  have HE := hide he
  have HN := hide hn
  clear hn
  have hc0 := (he.con.weak (S' := fun b => S b ∧ b < w.heap.size) fun _ hb hlt => ⟨hb, hlt⟩)
  have HC := hide (fun o1 o2 => hc0.ext (below_two w o1 o2))
  clear he hc0
  go_enter Try.func50, Try.ntmps50
  go_wp2_with (first
    | refine wpList_zeroS rfl rfl strcE ?_
    | refine wpList_loadS rfl (.tmp 5) rfl strcC ⟨w.heap.size, 10, none⟩ rfl ((cs.drop 10).take 16) (by have := HN.out; simp; omega) (box_cells (C := cs) (tb := 68) (heap_alloc2_old w _ _) 10 16) ?_)
  refine (CStrip_any (k := e.kind) (HC.out _ _) hf).mono ?_
  rintro x w1 ⟨cs', rfl, hc', hb1⟩
  have hn' := hc'.length
  have HN' := hide hn'
  have hone' := hc'.one
  have hB1 := box_below (heap_alloc2_old w (.cells cs.toArray 68) (.cells evZero 68)) hb1
  have hB2 := box_below (heap_alloc2_new w (.cells cs.toArray 68) (.cells evZero 68)) hb1
  have HC' := hide hc'; have HB1 := hide hb1
  clear hc' hb1 HC
  go_wp2_with (refine wpList_storeB rfl (.tmp 8) (.tmp 7) rfl rfl strcC w.heap.size 10 rfl cs' rfl hn' hone' cs 68 hB1 (by have := HN.out; omega) ?_)
  intro w2 hB1' g1 hz2
  have hB2' := box_grown hB2 g1 (by omega)
  have hp : (patch cs 10 cs').length = 29 := by have := HN.out; rw [patch_length _ _ _ (by omega)]; exact this
  have hpo : ∀ u ∈ patch cs 10 cs', u.oneCell' = true := by
    intro u hu
    rcases List.mem_append.1 hu with hu | hu
    · exact hone u (List.mem_of_mem_take hu)
    · rcases List.mem_append.1 hu with hu | hu
      · exact hone' u hu
      · exact hone u (List.mem_of_mem_drop hu)
  clear hB1 hB2
  go_wp2_with (first
    | refine wpList_loadS rfl (.tmp 1) rfl strcE ⟨w.heap.size, 0, none⟩ rfl (patch cs 10 cs') hp (box_all hB1') ?_
    | refine wpList_storeB rfl (.tmp 2) (.tmp 9) rfl rfl strcE (w.heap.size + 1) 0 rfl (patch cs 10 cs') rfl hp hpo evZero.toList 68 hB2' (by decide) ?_)
  intro w3 hB3 g2 hz3
  rw [patch_all _ _ (by rw [hp]; rfl)] at hB3
  have hend := strip_end HE.out HC'.out HB1.out g1 g2
  rw [show cs.take 10 ++ (cs' ++ cs.drop 26) = patch cs 10 cs' by simp [patch, hn']] at hend
  have HEND := hide hend
  clear hend
  go_wp2_with fail
  exact bodyPost_cell strcE rfl (w.heap.size + 1) rfl rfl hB3 (by simpa using hp) ⟨_, rfl, HEND.out.1, HEND.out.2⟩


theorem inserted_all {S : Nat → Prop} {v : Value} {l : List Ev} {w : World} (hr : EvsR w S v l) (hl : l.length ≤ 1073741824) :
    Calls Try.prog 38 #[v, .int .i64 (l.length : Int), .slice none 0 0] w (GivesO S l w) := by
  have h := inserted_any hr (EvsR.nil w S) (Nat.le_refl _) hl (by simp)
  simpa using h

set_option maxRecDepth 100000 in
set_option maxHeartbeats 1000000 in
theorem stripped_any {S : Nat → Prop} {v : Value} {l : List Ev} {ns : List Int} {A : Option Addr} {c : Nat} {w : World} (hr : EvsR w S v l) (hns : Row w w.heap.size A (ivs ns)) (hl : l.length ≤ 1073741824) (hnl : ns.length ≤ 1073741824) (hf : ∀ e ∈ l, e.con.fit) :
    Calls Try.prog 34 #[v, .slice A ns.length c] w (GivesO (fun b => S b ∨ w.heap.size ≤ b) (stripL ns l) w) := by
  have hr' := hr.weak (S' := fun b => S b ∧ b < w.heap.size) fun _ hb hlt => ⟨hb, hlt⟩
  obtain ⟨A0, c0, _, rfl, _⟩ := hr.form
  have HI := hide (inserted_all hr' hl)
  clear hr hr'
  go_enter Try.func34, Try.ntmps34
  go_wp2_with fail
  refine HI.out.mono ?_
  rintro x w1 ⟨v1, rfl, ⟨css, hown, ht⟩, hb1⟩
  obtain ⟨A1, c1, g, rfl, hgb, hgA⟩ : ∃ A1 c1 g, v1 = .slice A1 l.length c1 ∧ w.heap.size ≤ g ∧ (0 < l.length → A1 = some ⟨g, 0, none⟩ ∧ g < w1.heap.size) := by
    by_cases h0 : 0 < l.length
    · obtain ⟨g, c1, rfl, h1, h2, _⟩ := own_block hown h0 (by decide)
      exact ⟨_, c1, g, rfl, h1, fun _ => ⟨rfl, h2⟩⟩
    · obtain ⟨A1, c1, rfl, _⟩ := own_form hown
      exact ⟨A1, c1, w.heap.size, rfl, Nat.le_refl _, fun h => absurd h h0⟩
  clear HI
  go_wp2_with fail
  go_loopw [13] (fun i wr => ∃ (k : Nat) (css : List (List Value)), k ≤ l.length ∧ i = .int .i64 (k : Int) ∧ wr.ownsRow w.heap.size 68 29 (.slice A1 l.length c1) l.length css.flatten ∧ Told (EvR wr (fun b => b ≠ g ∧ (S b ∨ w.heap.size ≤ b))) css (mixL ns l k) ∧ Below w.heap.size w wr ∧ w1.heap.size ≤ wr.heap.size)
    (fun i _ => l.length - (intOf i).toNat)
  case atStart => exact ⟨0, css, Nat.zero_le _, rfl, hown, by rw [mixL_zero]; exact ht.imp fun _ _ h => h.weak fun b hb _ => ⟨by have := hb.2; omega, .inl hb.1⟩, hb1, Nat.le_refl _⟩
  case round =>
    clear ht hown css
    obtain ⟨k, css, hk, rfl, hown, ht, hnx, hz⟩ := hrel
    by_cases hlt : k < l.length
    · obtain ⟨hA1, hgs⟩ := hgA (by omega)
      obtain rfl := hA1
      have hkm : k < (mixL ns l k).length := by rw [mixL_length ns l k hk]; exact hlt
      obtain ⟨b, o, cs, hbo, _, he, hcs, hc⟩ := evs_at (Row.own hown) ht k hkm
      simp only [Option.some.injEq, Addr.mk.injEq, and_true] at hbo
      obtain ⟨rfl, rfl⟩ := hbo
      rw [mixL_get ns l k hlt] at he
      simp only [Nat.zero_add] at hc
      have hcell := hc 0 _ he.some0
      rw [Nat.add_zero] at hcell
      have hn1 := he.length
      have r1 : wr.rangeAt g (k * 29) cs := hc
      have i0 : (0 : Int) ≤ (k : Int) := by omega
      have i1 : (k : Int) < (l.length : Int) := by omega
      have HE := hide (EStrip_any he (hf _ (List.getElem_mem hlt)))
      have HO := hide hown; have HT := hide ht
      clear hc he hown ht
      by_cases hm : l[k].id ∈ ns
      · have HM := hide (mixL_strip ns l k hlt hm)
        have hd : decide (l[k].id ∈ ns) = true := decide_eq_true hm
        clear hm
        go_wp2_with fail
        refine (NHas_any (hns.ext hnx) hnl).mono ?_
        rintro x w2 ⟨rfl, rfl⟩
        go_wp2_with (refine wpList_loadS rfl (.tmp 27) rfl strcE ⟨g, k * 29, none⟩ rfl cs hn1 (cells_range r1) ?_)
        refine HE.out.mono ?_
        rintro x w3 ⟨cs', rfl, he', hb3⟩
        have hn' := he'.length
        have ho' := he'.one
        go_wp2_with (refine wpList_storeS rfl (.tmp 30) (.tmp 29) rfl rfl strcE (own_below HO.out hb3) k hlt ⟨g, k * 29, none⟩ (by rw [Addr.add_mid, Nat.zero_add]) rfl cs' rfl hn' ho' ?_)
        intro w4 hown4 hg4
        have hnx3 := hnx.trans (hb3.mono hnx.size)
        have hnx4 := hnx3.grown hg4 hnx3.size (fun q hq => by injection hq with hq; omega)
        have hz4 : w1.heap.size ≤ w4.heap.size := Nat.le_trans hz (Nat.le_trans hb3.size hg4.size)
        have hlen := HT.out.length
        rw [flat_patch k cs' (told_size HT.out) (by rw [hlen]; exact hkm) hn'] at hown4
        have ht4 : Told (EvR w4 (fun b => b ≠ g ∧ (S b ∨ w.heap.size ≤ b))) (css.set k cs') (mixL ns l (k + 1)) := by
          rw [HM.out]
          refine (Told.set k (HT.out.imp fun _ _ h => h.ext hb3) (he'.weak fun b hb _ => ?_)).imp fun _ _ h => h.grown hg4 fun b hb e => hb.1 (by injection e with e; exact e.symm)
          rcases hb with hb | hb
          · exact hb
          · exact ⟨by omega, .inr (Nat.le_trans hnx.size hb)⟩
        have HT4 := hide ht4
        clear HT HO HM HE r1 hg4 hb3 ht4
        go_wp2_with fail
        go_roundw
        case rel => exact ⟨k + 1, _, by omega, by go_num, hown4, HT4.out, hnx4, hz4⟩
        case measure => simp [intOf]; omega
      · have HM := hide (mixL_keep ns l k hlt hm)
        have hd : decide (l[k].id ∈ ns) = false := decide_eq_false hm
        clear hm r1 HE
        go_wp2_with fail
        refine (NHas_any (hns.ext hnx) hnl).mono ?_
        rintro x w2 ⟨rfl, rfl⟩
        go_wp2_with fail
        go_roundw
        case rel => exact ⟨k + 1, css, by omega, by go_num, HO.out, by rw [HM.out]; exact HT.out, hnx, hz⟩
        case measure => simp [intOf]; omega
    · obtain rfl : k = l.length := by omega
      rw [mixL_all] at ht
      have hlen := stripL_length ns l
      go_wp2_with fail
      go_ret
      exact ⟨_, rfl, ⟨css, by rw [hlen]; exact hown, ht.imp fun _ _ h => h.weak fun b hb _ => hb.2⟩, hnx⟩
end
end Go.Proofs.Ytbehflldghhopaa

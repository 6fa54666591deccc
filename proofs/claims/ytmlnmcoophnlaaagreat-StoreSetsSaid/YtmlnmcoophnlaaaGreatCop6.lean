/-
  content: uses, keeps, texts, copied.
  content: texts and copied, their results written out.
  Eleven stores of one cell each, in a row, into a block that is known whole. No function of the program; no condition.
-/
import Derived.Test.YtmlnmcoophnlaaaGreatStr6
import Derived.Test.YtmlnmcoophnlaaaGreatPhases
import Derived.Test.YtmlnmcoophnlaaaGreatElemT
set_option linter.unusedVariables false
set_option linter.unusedSimpArgs false
namespace Go.Proofs.YtmlnmcoophnlaaaGreat
section
open Go.RowKit
attribute [local go_sem] Addr.add_mid

theorem elemU : Elem Tryz.prog 26 58 (.agg #[.string ⟨#[]⟩, .int .i64 0]) 2 24 := ⟨Tryz.underlying26, by kernel_rfl, rfl, by decide⟩
theorem elemK : Elem Tryz.prog 27 82 (.agg #[.int .i64 0, .int .i64 0]) 2 16 := ⟨Tryz.underlying27, by kernel_rfl, rfl, by decide⟩
theorem ucs_one (l : List (ByteArray × Int)) : ∀ u ∈ ucs l, u.oneCell' = true := by
  intro u hu; obtain ⟨c, _, hc⟩ := List.mem_flatMap.1 hu
  simp only [List.mem_cons, List.not_mem_nil, or_false] at hc
  rcases hc with rfl | rfl <;> rfl
theorem kcs_one (l : List (Int × Int)) : ∀ u ∈ kcs l, u.oneCell' = true := by
  intro u hu; obtain ⟨c, _, hc⟩ := List.mem_flatMap.1 hu
  simp only [List.mem_cons, List.not_mem_nil, or_false] at hc
  rcases hc with rfl | rfl <;> rfl

set_option maxRecDepth 100000 in
set_option maxHeartbeats 400000 in
theorem texts_copy {S : Nat → Prop} {v : Value} {l : List ByteArray} {w : World} (hr : Slc w S v 1 l.length (svs l)) (hl : l.length ≤ 1073741824) :
    Calls Tryz.prog 77 #[v] w (fun e w' => ∃ v', e = .returned v' ∧ Slc w' (w.heap.size ≤ ·) v' 1 l.length (svs l) ∧ Below w.heap.size w w') := by
  obtain ⟨A, c, rfl, h1, _, h3, hr, h4⟩ := hr.form
  go_enter Tryz.func77, Tryz.ntmps77
  go_wp2_with (first | (at_builtin; go_must (refine wpList_append_row rfl _ (.tmp 3) rfl elemS w.heap.size (.slice none 0 0) 0 [] rfl (World.ownsRow_nil _ _ _ _) w.heap.size l.length c A (svs l) (by simp [svs]) rfl hr h3 (svs_one l) (by unfold maxLen; omega) (by omega) (Nat.le_refl _) ?_)))
  intro v1 w1 hown1 hg1
  have hb1 := below_of_own (ext_refl w) (World.ownsRow_nil w w.heap.size 9 1) hg1 (Nat.le_refl _) (Nat.le_refl _)
  have hs := Slc.own hown1 (by decide)
  clear hown1 hg1
  go_wp2_with fail
  go_ret
  exact ⟨_, rfl, hs, hb1⟩

/-- which fields a redaction leaves, as bits -/
def keepsN (k : Int) : Int := if k = 2 then 18 else if k = 3 then 128 else if k = 4 then 34 else if k = 5 then 2 else if k = 6 then 96 else if k = 14 then 4 else 0
def usesN (k : Int) : Int := if k = 2 then 19 else if k = 3 then 128 else if k = 4 then 34 else if k = 5 then 2 else if k = 6 then 96 else if k = 7 then 1 else if k = 8 then 2 else if k = 9 then 3 else if k = 10 then 2 else if k = 11 then 13 else if k = 12 then 5 else if k = 13 then 5 else if k = 14 then 5 else 0
theorem uses_cases (k : Int) : k = 2 ∨ k = 3 ∨ k = 4 ∨ k = 5 ∨ k = 6 ∨ k = 7 ∨ k = 8 ∨ k = 9 ∨ k = 10 ∨ k = 11 ∨ k = 12 ∨ k = 13 ∨ k = 14 ∨ (k ≠ 2 ∧ k ≠ 3 ∧ k ≠ 4 ∧ k ≠ 5 ∧ k ≠ 6 ∧ k ≠ 7 ∧ k ≠ 8 ∧ k ≠ 9 ∧ k ≠ 10 ∧ k ≠ 11 ∧ k ≠ 12 ∧ k ≠ 13 ∧ k ≠ 14) := by omega
def GivesN (n : Int) (w : World) (e : Ending) (w' : World) : Prop := e = .returned (.int .i64 n) ∧ w = w'

set_option maxRecDepth 100000 in
set_option maxHeartbeats 1000000 in
theorem uses_any (k : Int) (w : World) : Calls Tryz.prog 103 #[.int .i64 k] w (GivesN (usesN k) w) := by
  rcases uses_cases k with rfl | rfl | rfl | rfl | rfl | rfl | rfl | rfl | rfl | rfl | rfl | rfl | rfl | hk
  case inr.inr.inr.inr.inr.inr.inr.inr.inr.inr.inr.inr.inr =>
    have hs : usesN k = 0 := by simp [usesN, hk]
    obtain ⟨k2, k3, k4, k5, k6, k7, k8, k9, k10, k11, k12, k13, k14⟩ := hk
    have k2 : (k == 2) = false := by simpa using k2
    have k3 : (k == 3) = false := by simpa using k3
    have k4 : (k == 4) = false := by simpa using k4
    have k5 : (k == 5) = false := by simpa using k5
    have k6 : (k == 6) = false := by simpa using k6
    have k7 : (k == 7) = false := by simpa using k7
    have k8 : (k == 8) = false := by simpa using k8
    have k9 : (k == 9) = false := by simpa using k9
    have k10 : (k == 10) = false := by simpa using k10
    have k11 : (k == 11) = false := by simpa using k11
    have k12 : (k == 12) = false := by simpa using k12
    have k13 : (k == 13) = false := by simpa using k13
    have k14 : (k == 14) = false := by simpa using k14
    rw [hs]
    clear hs
    go_enter Tryz.func103, Tryz.ntmps103
    go_wp2_with fail
    go_ret
    exact ⟨rfl, rfl⟩
  all_goals
    go_enter Tryz.func103, Tryz.ntmps103
    go_wp2_with fail
    go_ret
    exact ⟨rfl, rfl⟩

set_option maxRecDepth 100000 in
set_option maxHeartbeats 1000000 in
theorem keeps_any (k : Int) (w : World) : Calls Tryz.prog 79 #[.int .i64 k] w (GivesN (keepsN k) w) := by
  by_cases hk : k ≠ 2 ∧ k ≠ 3 ∧ k ≠ 4 ∧ k ≠ 5 ∧ k ≠ 6 ∧ k ≠ 14
  · have hs : keepsN k = 0 := by simp [keepsN, hk]
    obtain ⟨k2, k3, k4, k5, k6, k14⟩ := hk
    have k2 : (k == 2) = false := by simpa using k2
    have k3 : (k == 3) = false := by simpa using k3
    have k4 : (k == 4) = false := by simpa using k4
    have k5 : (k == 5) = false := by simpa using k5
    have k6 : (k == 6) = false := by simpa using k6
    have k14 : (k == 14) = false := by simpa using k14
    rw [hs]
    clear hs
    go_enter Tryz.func79, Tryz.ntmps79
    go_wp2_with fail
    go_ret
    exact ⟨rfl, rfl⟩
  · have hk' : k = 2 ∨ k = 3 ∨ k = 4 ∨ k = 5 ∨ k = 6 ∨ k = 14 := by omega
    clear hk
    rcases hk' with rfl | rfl | rfl | rfl | rfl | rfl
    all_goals
      go_enter Tryz.func79, Tryz.ntmps79
      go_wp2_with (go_at_call 103; refine (uses_any _ _).mono ?_; rintro e w' ⟨rfl, rfl⟩)
      go_ret
      exact ⟨rfl, rfl⟩

def levZero : Array Value := #[.slice none 0 0, .slice none 0 0, .int .i64 0, .int .i64 0, .int .i64 0, .int .i64 0, .int .i64 0, .int .i64 0, .int .i64 0]
theorem strcL : Strc Tryz.prog 29 levZero 9 := ⟨⟨_, Tryz.underlying29, rfl⟩, by kernel_rfl, rfl⟩
theorem sizeU : (Tryz.prog.info? 26).map (·.size) = some 1 := by kernel_rfl
theorem sizeK : (Tryz.prog.info? 27).map (·.size) = some 1 := by kernel_rfl

def GivesL (S : Nat → Prop) (f : Lev) (w : World) (e : Ending) (w' : World) : Prop := ∃ cs, e = .returned (.agg cs.toArray) ∧ LevR w' S cs f ∧ Below w.heap.size w w'

set_option maxRecDepth 100000 in
set_option maxHeartbeats 1000000 in
theorem copied_any {S : Nat → Prop} {cs : List Value} {l : Lev} {w : World} (hr : LevR w S cs l) (hl : l.users.length ≤ 1073741824) (hk : l.kinds.length ≤ 1073741824) :
    Calls Tryz.prog 78 #[.agg cs.toArray] w (GivesL (w.heap.size ≤ ·) l w) := by
  obtain ⟨vu, vk, rfl, hu, hq⟩ := hr
  obtain ⟨A1, c1, rfl, p1, _, p3, hu, p5⟩ := hu.form
  obtain ⟨A2, c2, rfl, q1, _, q3, hq, q5⟩ := hq.form
  obtain ⟨cs, hcs⟩ : ∃ cs, cs = levCells l (.slice A1 l.users.length c1) (.slice A2 l.kinds.length c2) := ⟨_, rfl⟩
  rw [← hcs]
  have HCS := hide hcs
  have s0 : cs[0]? = some (.slice A1 l.users.length c1) := by rw [hcs]; rfl
  have s1 : cs[1]? = some (.slice A2 l.kinds.length c2) := by rw [hcs]; rfl
  have HN := hide (show cs.length = 9 by rw [hcs]; rfl)
  have HO := hide (show ∀ u ∈ cs, u.oneCell' = true by
    rw [hcs]; intro u hu'
    simp only [levCells, List.mem_cons, List.not_mem_nil, or_false] at hu'
    rcases hu' with rfl | rfl | rfl | rfl | rfl | rfl | rfl | rfl | rfl <;> rfl)
  clear hcs
  go_enter Tryz.func78, Tryz.ntmps78
  go_wp2_with (first
    | refine wpList_zeroS rfl rfl strcL ?_
    | (at_builtin; go_must (refine wpList_append_row rfl _ (.tmp 4) rfl elemU (w.heap.size + 2) (.slice none 0 0) 0 [] rfl (World.ownsRow_nil _ _ _ _) _ l.users.length c1 A1 (ucs l.users) p5 rfl (hu.ext (below_two w _ _)) p3 (ucs_one _) (by unfold maxLen; omega) (by omega) (by simp) ?_)))
  intro v1 w1 hown1 hg1
  have hb1 : Below ((w.alloc (.cells cs.toArray 29)).alloc (.cells levZero 29)).heap.size _ w1 := below_of_own (ext_refl _) (World.ownsRow_nil _ (w.heap.size + 2) 58 2) hg1 (Nat.le_refl _) (by simp)
  have B1 := box_below (heap_alloc2_old w (.cells cs.toArray 29) (.cells levZero 29)) hb1
  have B2 := box_below (heap_alloc2_new w (.cells cs.toArray 29) (.cells levZero 29)) hb1
  have hz1 : w.heap.size + 2 ≤ w1.heap.size := by have := hb1.size; simp at this; omega
  have hbw1 := (below_two w (.cells cs.toArray 29) (.cells levZero 29)).trans (hb1.mono (by simp; omega))
  have sl1 := Slc.own hown1 (by decide)
  have o1 := sl1.one
  clear hown1 hg1 hb1 s0
  go_wp2_with (refine wpList_store1 rfl (.tmp 6) (.tmp 5) rfl rfl sizeU w.heap.size 0 rfl v1 rfl o1 cs 29 B1 (by have := HN.out; omega) ?_)
  intro w2 B1' g2 hz2
  have B2' := box_grown B2 g2 (by omega)
  have hbw2 := hbw1.grown g2 hbw1.size (fun k hk => by injection hk with hk; omega)
  replace sl1 := sl1.grown g2 (fun b hb e => by injection e with e; omega)
  have c1' := box_at B1' (j := 1) (u := .slice A2 l.kinds.length c2) (by rw [HCS.out]; rfl)
  clear B1 B2 hbw1 s1 g2
  have HZ2 := hide hz2; clear hz2
  have hz : w.heap.size + 2 ≤ w2.heap.size := by rw [HZ2.out]; exact hz1
  go_wp2_with (at_builtin; go_must (refine wpList_append_row rfl _ (.tmp 8) rfl elemK w2.heap.size (.slice none 0 0) 0 [] rfl (World.ownsRow_nil _ _ _ _) _ l.kinds.length c2 A2 (kcs l.kinds) q5 rfl (hq.ext hbw2) q3 (kcs_one _) (by unfold maxLen; omega) (by omega) (Nat.le_refl _) ?_))
  intro v2 w3 hown2 hg3
  have hb3 := below_of_own (ext_refl w2) (World.ownsRow_nil w2 w2.heap.size 82 2) hg3 (Nat.le_refl _) (Nat.le_refl _)
  have B1 := box_below B1' hb3
  have B2 := box_below B2' hb3
  have hbw3 := hbw2.trans (hb3.mono hbw2.size)
  replace sl1 := sl1.ext hb3
  have sl2 := Slc.own hown2 (by decide)
  have o2 := sl2.one
  have L1 : (patch cs 0 [v1]).length = 9 := by rw [HCS.out]; rfl
  clear hown2 hg3 hb3 B1' B2' hbw2 c1'
  go_wp2_with (refine wpList_store1 rfl (.tmp 10) (.tmp 9) rfl rfl sizeK w.heap.size 1 rfl v2 rfl o2 (patch cs 0 [v1]) 29 B1 (by omega) ?_)
  intro w4 B1' g4 hz4
  have B2' := box_grown B2 g4 (by omega)
  have hbw4 := hbw3.grown g4 hbw3.size (fun k hk => by injection hk with hk; omega)
  replace sl1 := sl1.grown g4 (fun b hb e => by injection e with e; omega)
  replace sl2 := sl2.grown g4 (fun b hb e => by injection e with e; omega)
  rw [show patch (patch cs 0 [v1]) 1 [v2] = levCells l v1 v2 by rw [HCS.out]; rfl] at B1'
  have oo : ∀ u ∈ levCells l v1 v2, u.oneCell' = true := by
    intro u hu'
    simp only [levCells, List.mem_cons, List.not_mem_nil, or_false] at hu'
    rcases hu' with rfl | rfl | rfl | rfl | rfl | rfl | rfl | rfl | rfl <;> first | rfl | exact o1 | exact o2
  clear B1 B2 hbw3 g4 L1
  generalize hC : levCells l v1 v2 = C at B1' oo
  have HC := hide hC
  have HL := hide (show C.length = 9 by rw [← hC]; rfl)
  clear hC
  go_wp2_with (first
    | refine wpList_loadS rfl (.tmp 1) rfl strcL ⟨w.heap.size, 0, none⟩ rfl C HL.out (box_all B1') ?_
    | refine wpList_storeB rfl (.tmp 2) (.tmp 11) rfl rfl strcL (w.heap.size + 1) 0 rfl C rfl HL.out oo levZero.toList 29 B2' (by decide) ?_)
  intro w5 B5 g5 hz5
  rw [patch_all _ _ (by rw [HL.out]; rfl)] at B5
  have hbw5 := hbw4.grown g5 hbw4.size (fun k hk => by injection hk with hk; omega)
  replace sl1 := sl1.grown g5 (fun b hb e => by injection e with e; omega)
  replace sl2 := sl2.grown g5 (fun b hb e => by injection e with e; omega)
  go_wp2_with fail
  refine bodyPost_cell strcL rfl (w.heap.size + 1) rfl rfl B5 (by simpa using HL.out) ⟨_, rfl, ⟨v1, v2, HC.out.symm, ?_, ?_⟩, hbw5⟩
  · exact sl1.weak fun b hb _ => by omega
  · exact sl2.weak fun b hb _ => by omega
end

section
open Go.RowKit

/-- levels come back, their cells written out -/
def GivesLit (l : Lev) (w : World) (e : Ending) (w' : World) : Prop := ∃ A c A2 c2, e = .returned (.agg #[.slice A l.users.length c, .slice A2 l.kinds.length c2, .int .i64 l.user, .int .i64 l.message, .int .i64 l.state, .int .i64 l.invite, .int .i64 l.kick, .int .i64 l.ban, .int .i64 l.redact]) ∧
  Slc w' (w.heap.size ≤ ·) (.slice A l.users.length c) 2 l.users.length (ucs l.users) ∧ Slc w' (w.heap.size ≤ ·) (.slice A2 l.kinds.length c2) 2 l.kinds.length (kcs l.kinds) ∧ Below w.heap.size w w'
theorem copied_in {w W : World} {S : Nat → Prop} {l : Lev} {vu vk : Value} (hb : Below w.heap.size w W) (hr : LevR w S (levCells l vu vk) l) (hl : l.users.length ≤ 1073741824) (hk : l.kinds.length ≤ 1073741824) :
    Calls Tryz.prog 78 #[.agg #[vu, vk, .int .i64 l.user, .int .i64 l.message, .int .i64 l.state, .int .i64 l.invite, .int .i64 l.kick, .int .i64 l.ban, .int .i64 l.redact]] W (GivesLit l W) := by
  refine Calls.mono (copied_any (hr.ext hb) hl hk) ?_
  rintro e w' ⟨cs, rfl, ⟨u, k, rfl, s1, s2⟩, hb⟩
  obtain ⟨A, c, rfl, _⟩ := s1.form
  obtain ⟨A2, c2, rfl, _⟩ := s2.form
  exact ⟨A, c, A2, c2, rfl, s1, s2, hb⟩
/-- texts come back, the slice written out -/
def GivesT (l : List ByteArray) (w : World) (e : Ending) (w' : World) : Prop := ∃ A c, e = .returned (.slice A l.length c) ∧ Slc w' (w.heap.size ≤ ·) (.slice A l.length c) 1 l.length (svs l) ∧ Below w.heap.size w w'
theorem texts_lit {S : Nat → Prop} {v : Value} {l : List ByteArray} {w : World} (hr : Slc w S v 1 l.length (svs l)) (hl : l.length ≤ 1073741824) : Calls Tryz.prog 77 #[v] w (GivesT l w) := by
  refine (texts_copy hr hl).mono ?_
  rintro e w' ⟨v', rfl, s, hb⟩
  obtain ⟨A, c, rfl, _⟩ := s.form
  exact ⟨A, c, rfl, s, hb⟩

theorem sizeI : (Tryz.prog.info? 3).map (·.size) = some 1 := by kernel_rfl
theorem sizeS : (Tryz.prog.info? 9).map (·.size) = some 1 := by kernel_rfl
theorem sizeT : (Tryz.prog.info? 25).map (·.size) = some 1 := by kernel_rfl
end

section
open Go.RowKit
theorem set_box {w : World} {g i : Nat} {C : List Value} {t : TypeId} {v : Value} (hB : w.heap[g]? = some (.cells C.toArray t (0, 0))) (hi : i < C.length) : (w.setCell ⟨g, i, none⟩ v).heap[g]? = some (.cells (C.set i v).toArray t (0, 0)) := by
  rw [heap_setCell_same w g i _ t v hB]
  simp
theorem set_grown {w0 w : World} {g i : Nat} {v : Value} (h : w0.grownBy w (some g)) : w0.grownBy (w.setCell ⟨g, i, none⟩ v) (some g) :=
  ⟨h.os, h.tape, h.output, by simpa [World.setCell] using h.size, fun k hk hne => (Below.heap_setCell w ⟨g, i, none⟩ v k (fun e => hne (by rw [e]))).trans (h.block k hk hne)⟩
/-- cells 5 to 15 of 16 -/
theorem set_eleven {w : World} {g : Nat} {C : List Value} {t : TypeId} (hB : w.heap[g]? = some (.cells C.toArray t (0, 0))) (hC : C.length = 16) (x5 x6 x7 x8 x9 x10 x11 x12 x13 x14 x15 : Value) :
    (((((((((((w.setCell ⟨g, 5, none⟩ x5).setCell ⟨g, 6, none⟩ x6).setCell ⟨g, 7, none⟩ x7).setCell ⟨g, 8, none⟩ x8).setCell ⟨g, 9, none⟩ x9).setCell ⟨g, 10, none⟩ x10).setCell ⟨g, 11, none⟩ x11).setCell ⟨g, 12, none⟩ x12).setCell ⟨g, 13, none⟩ x13).setCell ⟨g, 14, none⟩ x14).setCell ⟨g, 15, none⟩ x15).heap[g]? =
      some (.cells (C.take 5 ++ [x5, x6, x7, x8, x9, x10, x11, x12, x13, x14, x15]).toArray t (0, 0)) ∧
    w.grownBy (((((((((((w.setCell ⟨g, 5, none⟩ x5).setCell ⟨g, 6, none⟩ x6).setCell ⟨g, 7, none⟩ x7).setCell ⟨g, 8, none⟩ x8).setCell ⟨g, 9, none⟩ x9).setCell ⟨g, 10, none⟩ x10).setCell ⟨g, 11, none⟩ x11).setCell ⟨g, 12, none⟩ x12).setCell ⟨g, 13, none⟩ x13).setCell ⟨g, 14, none⟩ x14).setCell ⟨g, 15, none⟩ x15) (some g) := by
  match C, hC with
  | [c0, c1, c2, c3, c4, c5, c6, c7, c8, c9, c10, c11, c12, c13, c14, c15], _ =>
    have h5 := set_box (v := x5) hB (i := 5) (by simp)
    have h6 := set_box (v := x6) h5 (i := 6) (by simp)
    have h7 := set_box (v := x7) h6 (i := 7) (by simp)
    have h8 := set_box (v := x8) h7 (i := 8) (by simp)
    have h9 := set_box (v := x9) h8 (i := 9) (by simp)
    have h10 := set_box (v := x10) h9 (i := 10) (by simp)
    have h11 := set_box (v := x11) h10 (i := 11) (by simp)
    have h12 := set_box (v := x12) h11 (i := 12) (by simp)
    have h13 := set_box (v := x13) h12 (i := 13) (by simp)
    have h14 := set_box (v := x14) h13 (i := 14) (by simp)
    have h15 := set_box (v := x15) h14 (i := 15) (by simp)
    exact ⟨h15, set_grown (set_grown (set_grown (set_grown (set_grown (set_grown (set_grown (set_grown (set_grown (set_grown (set_grown (World.grownBy.refl _ _)))))))))))⟩
end
end Go.Proofs.YtmlnmcoophnlaaaGreat

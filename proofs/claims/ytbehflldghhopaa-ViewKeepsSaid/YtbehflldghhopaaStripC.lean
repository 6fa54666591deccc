/-
  content.Strip.
-/
import Derived.Test.YtbehflldghhopaaCopieds
import Derived.Deep.RegionWith
set_option linter.unusedVariables false
set_option linter.unusedSimpArgs false
namespace Go.Proofs.Ytbehflldghhopaa
open Go.RowKit
attribute [local go_sem] Addr.add_mid

set_option maxRecDepth 100000 in
set_option maxHeartbeats 16000000 in
theorem CStrip_1 {S : Nat → Prop} {cs : List Value} {c : Con} {w : World} (hr : ConR w S cs c) (hf : c.fit) :
    Calls Try.prog 54 #[.int .i64 1, .agg cs.toArray] w (GivesC S (stripC 1 c) w) := by
  obtain ⟨va, vd, vu, vk, rfl, h1, h2, h3, h4⟩ := hr
  obtain ⟨A1, c1, rfl, _⟩ := h1.form
  obtain ⟨A2, c2, rfl, _⟩ := h2.form
  obtain ⟨A3, c3, rfl, _⟩ := h3.form
  obtain ⟨A4, c4, rfl, _⟩ := h4.form
  have HL := hide (show LevR w S (levCells c.lv (.slice A3 c.lv.users.length c3) (.slice A4 c.lv.kinds.length c4)) c.lv from ⟨_, _, rfl, h3, h4⟩)
  obtain ⟨cs, hcs⟩ : ∃ cs, cs = conCells c (.slice A1 c.allow.length c1) (.slice A2 c.deny.length c2) (.slice A3 c.lv.users.length c3) (.slice A4 c.lv.kinds.length c4) := ⟨_, rfl⟩
  rw [← hcs]
  have HCS := hide hcs
  have W0 := heap_alloc2_old w (.cells cs.toArray 64) (.cells conZero 64)
  have W1 := heap_alloc2_new w (.cells cs.toArray 64) (.cells conZero 64)
  have hone := (show ∀ u ∈ cs.take 5, u.oneCell' = true by rw [hcs]; intro u hu; simp only [conCells, levCells, List.cons_append, List.nil_append, List.take_succ_cons, List.take_zero, List.mem_cons, List.not_mem_nil, or_false] at hu; rcases hu with rfl | rfl | rfl | rfl | rfl <;> rfl)
  have e5 := box_at W0 (j := 5) (u := .slice A1 c.allow.length c1) (by rw [hcs]; rfl)
  have e6 := box_at W0 (j := 6) (u := .slice A2 c.deny.length c2) (by rw [hcs]; rfl)
  have e7 := box_at W0 (j := 7) (u := .slice A3 c.lv.users.length c3) (by rw [hcs]; rfl)
  have e8 := box_at W0 (j := 8) (u := .slice A4 c.lv.kinds.length c4) (by rw [hcs]; rfl)
  have e9 := box_at W0 (j := 9) (u := .int .i64 c.lv.user) (by rw [hcs]; rfl)
  have e10 := box_at W0 (j := 10) (u := .int .i64 c.lv.message) (by rw [hcs]; rfl)
  have e11 := box_at W0 (j := 11) (u := .int .i64 c.lv.state) (by rw [hcs]; rfl)
  have e12 := box_at W0 (j := 12) (u := .int .i64 c.lv.invite) (by rw [hcs]; rfl)
  have e13 := box_at W0 (j := 13) (u := .int .i64 c.lv.kick) (by rw [hcs]; rfl)
  have e14 := box_at W0 (j := 14) (u := .int .i64 c.lv.ban) (by rw [hcs]; rfl)
  have e15 := box_at W0 (j := 15) (u := .int .i64 c.lv.redact) (by rw [hcs]; rfl)
  have hfW : ∀ o, ((w.alloc (.cells cs.toArray 64)).alloc (.cells conZero 64)).frozen? ⟨w.heap.size, o, none⟩ = false := fun o => frozen_of_row _ _ o _ _ W0
  have HN := hide (show cs.length = 16 by rw [hcs]; rfl)
  have HW0 := hide W0; have HW1 := hide W1; have HO := hide hone
  clear hcs h3 h4 W0 W1 hone
  go_enter Try.func54, Try.ntmps54
  go_wp2_with (refine wpList_zeroS rfl rfl strcC ?_)
  generalize hW : (w.alloc (.cells cs.toArray 64)).alloc (.cells conZero 64) = W at *
  have hz0 : W.heap.size = w.heap.size + 2 := by rw [← hW]; simp
  have hbW : Below w.heap.size w W := by rw [← hW]; exact below_two w _ _
  have hlt : w.heap.size < W.heap.size := by omega
  have hbD : Below w.heap.size w W.drew := ext_drew hbW
  obtain ⟨f1, f2, f3, f4⟩ := hf
  have HZ := hide hz0; have HW := hide hW
  clear hz0 hW
  go_region_with (first
    | (go_at_call 59; first
       | ((with_reducible refine (texts_lit (h1.ext hbD) f1).mono ?_); rintro e w1 ⟨V1, m1, rfl, hs1, hb1⟩; have hbw1 := hbD.trans (hb1.mono hbD.size); have hlt1 : w.heap.size < w1.heap.size := Nat.lt_of_lt_of_le hlt hb1.size; have hc1 : ∀ o, w1.cell? ⟨w.heap.size, o, none⟩ = W.cell? ⟨w.heap.size, o, none⟩ := fun o => hb1.cell (p := ⟨w.heap.size, o, none⟩) hlt; have hf1 : ∀ o, w1.frozen? ⟨w.heap.size, o, none⟩ = false := fun o => (hb1.frozen (p := ⟨w.heap.size, o, none⟩) hlt).trans (hfW o))
       | ((with_reducible refine (texts_lit (h2.ext hbw1) f2).mono ?_); rintro e w2 ⟨V2, m2, rfl, hs2, hb2⟩; have hbw2 := hbw1.trans (hb2.mono hbw1.size); have hlt2 : w.heap.size < w2.heap.size := Nat.lt_of_lt_of_le hlt1 hb2.size; have hc2 : ∀ o, w2.cell? ⟨w.heap.size, o, none⟩ = W.cell? ⟨w.heap.size, o, none⟩ := fun o => (hb2.cell (p := ⟨w.heap.size, o, none⟩) hlt1).trans (hc1 o); have hf2 : ∀ o, w2.frozen? ⟨w.heap.size, o, none⟩ = false := fun o => (hb2.frozen (p := ⟨w.heap.size, o, none⟩) hlt1).trans (hf1 o)))
    | (go_at_call 60; (with_reducible refine (copied_in hbw2 HL.out f3 f4).mono ?_); rintro e w3 ⟨V3, m3, V4, m4, rfl, hs3, hs4, hb3⟩; have hbw3 := hbw2.trans (hb3.mono hbw2.size); have hc3 : ∀ o, w3.cell? ⟨w.heap.size, o, none⟩ = W.cell? ⟨w.heap.size, o, none⟩ := fun o => (hb3.cell (p := ⟨w.heap.size, o, none⟩) hlt2).trans (hc2 o); have hf3 : ∀ o, w3.frozen? ⟨w.heap.size, o, none⟩ = false := fun o => (hb3.frozen (p := ⟨w.heap.size, o, none⟩) hlt2).trans (hf2 o)))
  all_goals
    obtain ⟨BX, GX⟩ := set_eleven (w := w3) (t := 64) (box_below (box_below (box_below (show W.drew.heap[w.heap.size]? = _ from HW0.out) hb1) hb2) hb3) HN.out (.slice V1 c.allow.length m1) (.slice V2 c.deny.length m2) (.slice V3 c.lv.users.length m3) (.slice V4 c.lv.kinds.length m4) (.int .i64 c.lv.user) (.int .i64 c.lv.message) (.int .i64 c.lv.state) (.int .i64 c.lv.invite) (.int .i64 c.lv.kick) (.int .i64 c.lv.ban) (.int .i64 c.lv.redact)
    have hz := HZ.out
    have hz1 := hb1.size; have hz2 := hb2.size; have hz3 := hb3.size
    have B2 := box_grown (box_below (box_below (box_below (show W.drew.heap[w.heap.size + 1]? = _ from HW1.out) hb1) hb2) hb3) GX (by omega)
    rw [show cs.take 5 ++ [.slice V1 c.allow.length m1, .slice V2 c.deny.length m2, .slice V3 c.lv.users.length m3, .slice V4 c.lv.kinds.length m4, .int .i64 c.lv.user, .int .i64 c.lv.message, .int .i64 c.lv.state, .int .i64 c.lv.invite, .int .i64 c.lv.kick, .int .i64 c.lv.ban, .int .i64 c.lv.redact] = conCells c (.slice V1 c.allow.length m1) (.slice V2 c.deny.length m2) (.slice V3 c.lv.users.length m3) (.slice V4 c.lv.kinds.length m4) by rw [HCS.out]; rfl] at BX
    have q1 := ((hs1.ext hb2).ext hb3).grown GX (fun b hb e => by injection e with e; simp at hb; omega)
    have q2 := (hs2.ext hb3).grown GX (fun b hb e => by injection e with e; omega)
    have q3 := hs3.grown GX (fun b hb e => by injection e with e; omega)
    have q4 := hs4.grown GX (fun b hb e => by injection e with e; omega)
    have hbX := hbw3.grown GX hbw3.size (fun k hk => by injection hk with hk; omega)
    have k0 : w.heap.size + 2 ≤ W.drew.heap.size := by show _ ≤ W.heap.size; omega
    have k1 := Nat.le_trans k0 hz1
    have k2 := Nat.le_trans k1 hz2
    obtain ⟨CC, hCC⟩ : ∃ CC, CC = conCells c (.slice V1 c.allow.length m1) (.slice V2 c.deny.length m2) (.slice V3 c.lv.users.length m3) (.slice V4 c.lv.kinds.length m4) := ⟨_, rfl⟩
    have hL : CC.length = 16 := by rw [hCC]; rfl
    have hO : ∀ u ∈ CC, u.oneCell' = true := by
      rw [hCC]; intro u hu
      simp only [conCells, levCells, List.cons_append, List.nil_append, List.mem_cons, List.not_mem_nil, or_false] at hu
      rcases hu with rfl | rfl | rfl | rfl | rfl | rfl | rfl | rfl | rfl | rfl | rfl | rfl | rfl | rfl | rfl | rfl <;> rfl
    rw [← hCC] at BX
    have HCC := hide hCC
    clear hCC hz hz1 hz2 hz3 hs1 hs2 hs3 hs4 hb1 hb2 hb3 hbw1 hbw2 hbw3 hc1 hc2 hc3 hf1 hf2 hf3 GX e5 e6 e7 e8 e9 e10 e11 e12 e13 e14 e15 hfW h1 h2 hbW hbD
    go_wp2_with (first
      | refine wpList_loadS rfl (.tmp 3) rfl strcC ⟨w.heap.size, 0, none⟩ rfl CC hL (box_all BX) ?_
      | refine wpList_storeB rfl (.tmp 4) (.tmp 21) rfl rfl strcC (w.heap.size + 1) 0 rfl CC rfl hL hO conZero.toList 64 B2 (by decide) ?_)
    intro w5 B5 g5 hz5
    rw [patch_all _ _ (by rw [hL]; rfl)] at B5
    have hb5 := hbX.grown g5 hbX.size (fun k hk => by injection hk with hk; omega)
    have hq : ∀ {v : Value} {size n B : Nat} {xs : List Value}, w.heap.size + 2 ≤ B → Slc _ (B ≤ ·) v size n xs → Slc w5 (fun b => S b ∨ w.heap.size ≤ b) v size n xs := fun hB h => (h.grown g5 (fun b hb e => by injection e with e; omega)).weak (fun b hb _ => .inr (by omega))
    have p1 := hq k0 q1
    have p2 := hq k1 q2
    have p3 := hq k2 q3
    have p4 := hq k2 q4
    go_wp2_with fail
    exact bodyPost_cell strcC rfl (w.heap.size + 1) rfl rfl B5 (by simpa using hL) ⟨_, rfl, ⟨_, _, _, _, HCC.out, p1, p2, p3, p4⟩, hb5⟩
end Go.Proofs.Ytbehflldghhopaa

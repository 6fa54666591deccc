/-
  view.Redacted and the reference's.
-/
import Derived.Test.YtbehflldghhopaaStripS
import Derived.Test.YtbehflldghhopaaStripD
import Derived.Test.YtbehflldghhopaaRSet
set_option linter.unusedVariables false
set_option linter.unusedSimpArgs false
namespace Go.Proofs.Ytbehflldghhopaa
open Go.RowKit
attribute [local go_sem] Addr.add_mid

def redactV (V : Vw) (n : Int) : Vw := { V with events := stripL [n] V.events, state := stripL [n] V.state }
/-- a view comes back -/
def GivesV (S : Nat → Prop) (V : Vw) (w : World) (e : Ending) (w' : World) : Prop := ∃ cs, e = .returned (.agg cs.toArray) ∧ VwR w' (fun b => S b ∨ w.heap.size ≤ b) cs V ∧ Below w.heap.size w w'
def vwZero : Array Value := #[.string ⟨#[]⟩, .int .i64 0, .slice none 0 0, .slice none 0 0, .slice none 0 0]
theorem strcV : Strc Try.prog 25 vwZero 5 := ⟨⟨_, Try.underlying25, rfl⟩, by kernel_rfl, rfl⟩
def Vw.fit (V : Vw) : Prop := (∀ e ∈ V.events, e.con.fit) ∧ (∀ e ∈ V.state, e.con.fit)

theorem OwnE.norm {m b : Nat} {w' : World} {S : Nat → Prop} {v : Value} {l : List Ev} (h : OwnE m w' (fun x => (S x ∧ x < b) ∨ m ≤ x) v l) (hm : b + 2 ≤ m) : OwnE (b + 2) w' (fun x => (S x ∧ x < b) ∨ b + 2 ≤ x) v l := by
  obtain ⟨css, h1, h2⟩ := h
  exact ⟨css, own_more h1 hm, h2.imp fun _ _ h => h.weak fun x hx _ => hx.imp id fun hx => Nat.le_trans hm hx⟩
theorem OwnE.one {b : Nat} {w' : World} {S : Nat → Prop} {v : Value} {l : List Ev} (h : OwnE b w' S v l) : v.oneCell' = true := by
  obtain ⟨css, h1, _⟩ := h
  rcases h1.2 with ⟨rfl, _⟩ | ⟨g, cap, cur, rfl, _⟩ <;> rfl
theorem OwnE.store {b : Nat} {w w' : World} {S : Nat → Prop} {v : Value} {l : List Ev} (h : OwnE (b + 2) w (fun x => (S x ∧ x < b) ∨ b + 2 ≤ x) v l) (hg : w.grownBy w' (some b)) : OwnE (b + 2) w' (fun x => (S x ∧ x < b) ∨ b + 2 ≤ x) v l := by
  obtain ⟨css, h1, h2⟩ := h
  refine ⟨css, own_apart h1 hg (fun g hg' e => ?_), h2.imp fun _ _ h => h.grown hg fun x hx e => ?_⟩
  · have := (h1.lt g hg').1; injection e with e; omega
  · injection e with e; rcases hx with hx | hx <;> omega
theorem OwnE.store1 {b g : Nat} {w w' : World} {S : Nat → Prop} {v : Value} {l : List Ev} (h : OwnE (b + 2) w (fun x => (S x ∧ x < b) ∨ b + 2 ≤ x) v l) (hg : w.grownBy w' (some g)) (hb : b ≤ g) (hb2 : g < b + 2) : OwnE (b + 2) w' (fun x => (S x ∧ x < b) ∨ b + 2 ≤ x) v l := by
  obtain ⟨css, h1, h2⟩ := h
  refine ⟨css, own_apart h1 hg (fun g hg' e => ?_), h2.imp fun _ _ h => h.grown hg fun x hx e => ?_⟩
  · have := (h1.lt g hg').1; injection e with e; omega
  · injection e with e; rcases hx with hx | hx <;> omega
theorem patch_fits {cs : List Value} {v : Value} (h : 2 + 1 ≤ cs.length ∧ 4 + 1 ≤ cs.length) : 4 + 1 ≤ (patch cs 2 [v]).length := by
  rw [patch_length]; exact h.2; simpa using h.1

set_option maxRecDepth 100000 in
set_option maxHeartbeats 2000000 in
theorem Redacted_any {S : Nat → Prop} {cs : List Value} {V : Vw} {n : Int} {w : World} (hv : VwR w S cs V) (hl : V.events.length ≤ 1048576 ∧ V.state.length ≤ 1048576) (hf : V.fit) :
    Calls Try.prog 18 #[.agg cs.toArray, .int .i64 n] w (GivesV S (redactV V n) w) := by
  obtain ⟨A, c, A2, c2, A3, c3, rfl, h1, h2, h3⟩ := hv.form
  obtain ⟨hl1, hl2⟩ := hl
  obtain ⟨hf1, hf2⟩ := hf
  replace h1 := h1.weak (S' := fun b => S b ∧ b < w.heap.size) fun _ hb hlt => ⟨hb, hlt⟩
  replace h3 := h3.weak (S' := fun b => S b ∧ b < w.heap.size) fun _ hb hlt => ⟨hb, hlt⟩
  obtain ⟨cs, hcs⟩ : ∃ cs, cs = vwCells V (.slice A V.events.length c) (.slice A2 V.gaps.length c2) (.slice A3 V.state.length c3) := ⟨_, rfl⟩
  rw [← hcs]
  have HCS := hide hcs
  have s2 : cs[2]? = some (.slice A V.events.length c) := by rw [hcs]; rfl
  have s4 : cs[4]? = some (.slice A3 V.state.length c3) := by rw [hcs]; rfl
  have HC5 : 2 + 1 ≤ cs.length ∧ 4 + 1 ≤ cs.length := by rw [hcs]; exact ⟨by simp [vwCells], by simp [vwCells]⟩
  clear hcs hv
  have W0 := heap_alloc2_old w (.cells cs.toArray 25) (.cells vwZero 25)
  have W1 := heap_alloc2_new w (.cells cs.toArray 25) (.cells vwZero 25)
  have hbW := below_two w (.cells cs.toArray 25) (.cells vwZero 25)
  have hz0 : ((w.alloc (.cells cs.toArray 25)).alloc (.cells vwZero 25)).heap.size = w.heap.size + 2 := by simp
  go_enter Try.func18, Try.ntmps18
  go_wp2_with (refine wpList_zeroS rfl rfl strcV ?_)
  generalize hW : (w.alloc (.cells cs.toArray 25)).alloc (.cells vwZero 25) = W at *
  clear hW
  have TP := fun (w' : World) => w'.heap[w.heap.size]? = some (.cells cs.toArray 25 (0, 0))
  go_simp
  go_simp
  go_cut [9, 14] (fun v4 v9 wx => wx.heap[w.heap.size]? = some (.cells (patch (patch cs 2 [v4]) 4 [v9]).toArray 25 (0, 0)) ∧ wx.heap[w.heap.size + 1]? = some (.cells vwZero 25 (0, 0)) ∧ OwnE (w.heap.size + 2) wx (fun x => (S x ∧ x < w.heap.size) ∨ w.heap.size + 2 ≤ x) v4 (stripL [n] V.events) ∧ OwnE (w.heap.size + 2) wx (fun x => (S x ∧ x < w.heap.size) ∨ w.heap.size + 2 ≤ x) v9 (stripL [n] V.state) ∧ Below w.heap.size w wx)
  case first =>
    refine wp_region_any (by kernel_rfl) ?_
    obtain ⟨wd, hWD⟩ : ∃ wd, wd = W.drew := ⟨_, rfl⟩
    have hbx : Below W.heap.size W W.drew := ext_drew (ext_refl W)
    rw [← hWD] at hbx
    have hbd := hbW.trans (hbx.mono hbW.size)
    have Bd := box_below W0 hbx
    have Rd := box_below W1 hbx
    have hm : w.heap.size + 2 ≤ wd.heap.size := by have := hbx.size; omega
    rw [show { W with drawn := W.drawn + 1 } = wd from hWD.symm]
    clear hWD hbx
    refine wpAny_take (i := 7) rfl (by kernel_rfl) (by kernel_rfl) (by kernel_rfl) (fun _ _ _ h => h) (show Yields _ _ _ (.int .i64 n) _ from .inl ⟨rfl, fun w' => by go_simp⟩) ?_
    refine wpAny_of_P (T := fun w' => w'.heap[w.heap.size]? = some (.cells cs.toArray 25 (0, 0))) (bad := [11, 13]) _ _ _ _ ?_
    refine wpAnyP_take (i := 0) rfl (by kernel_rfl) (by kernel_rfl) (by kernel_rfl) (by kernel_rfl) (fun _ _ _ h => h) (yieldsIf_run (.pointer (some ⟨w.heap.size, 2, none⟩)) rfl (fun w' => by go_simp)) Bd ?_
    refine wpAnyP_take (i := 1) rfl (by kernel_rfl) (by kernel_rfl) (by kernel_rfl) (by kernel_rfl) (fun _ _ _ h => h) (yieldsIf_load rfl rfl Try.underlying22 rfl rfl (fun w' hT => box_at hT s2)) Bd ?_
    refine wpAnyP_take (i := 2) rfl (by kernel_rfl) (by kernel_rfl) (by kernel_rfl) (by kernel_rfl) (fun _ _ _ h => h) (yieldsIf_run (.int .i64 n) rfl (fun w' => by go_simp)) Bd ?_
    refine wpAnyP_take (i := 5) rfl (by kernel_rfl) (by kernel_rfl) (by kernel_rfl) (by kernel_rfl) (fun _ _ _ h => h) (yieldsIf_run (.pointer (some ⟨w.heap.size, 4, none⟩)) rfl (fun w' => by go_simp)) Bd ?_
    refine wpAnyP_take (i := 6) rfl (by kernel_rfl) (by kernel_rfl) (by kernel_rfl) (by kernel_rfl) (fun _ _ _ h => h) (yieldsIf_load rfl rfl Try.underlying22 rfl rfl (fun w' hT => box_at hT s4)) Bd ?_
    go_simp
    clear hz0
    refine wpAnyP_twoQ (i := 3) (j := 8) (by kernel_rfl) rfl rfl ?_ ?_
    · go_wp2_with fail
      have hx1 : Below wd.heap.size wd (wd.alloc (.cells #[.int .i64 n] 3)) := ext_alloc (ext_refl _) _
      have N1 : (wd.alloc (.cells #[.int .i64 n] 3)).heap[wd.heap.size]? = some (.cells (ivs [n]).toArray 3 (0, 0)) := heap_alloc_new wd _
      have hb1 := hbd.trans (hx1.mono hbd.size)
      have hm1 := Nat.le_trans hm hx1.size
      have B1 := box_below Bd hx1
      have R1 := box_below Rd hx1
      refine nextQ B1 ?_
      go_simp
      generalize hW1 : (wd.alloc (.cells #[.int .i64 n] 3)) = w1 at *
      clear hW1
      refine wpAnyP_twoQ (i := 4) (j := 8) (by kernel_rfl) rfl rfl ?_ ?_
      · go_wp2_with fail
        refine (stripped_any (ns := [n]) (h1.ext hb1) (row_of_box N1 (Array.getElem?_eq_some_iff.1 N1).1) (by omega) (by simp) hf1).mono ?_
        rintro x2 w2 ⟨v2, rfl, ho2, hx2⟩
        have hb2 := hb1.trans (hx2.mono hb1.size)
        have hm2 := Nat.le_trans hm1 hx2.size
        have O2 := OwnE.norm ho2 hm1
        have B2 := box_below B1 hx2
        have R2 := box_below R1 hx2
        have n3_2 := box_below N1 hx2
        clear ho2
        go_wp2_with fail
        refine nextQ B2 ?_
        go_simp
        refine wpAnyP_take (i := 10) rfl (by kernel_rfl) (by kernel_rfl) (by kernel_rfl) (by kernel_rfl) (fun _ _ _ h => h) (yieldsIf_run (.pointer (some ⟨w.heap.size, 2, none⟩)) rfl (fun w' => by go_simp)) B2 ?_
        go_simp
        refine wpAnyP_oneQ (i := 8) (by kernel_rfl) rfl ?_
        go_wp2_with fail
        have hx3 : Below w2.heap.size w2 (w2.alloc (.cells #[.int .i64 n] 3)) := ext_alloc (ext_refl _) _
        have N3 : (w2.alloc (.cells #[.int .i64 n] 3)).heap[w2.heap.size]? = some (.cells (ivs [n]).toArray 3 (0, 0)) := heap_alloc_new w2 _
        have hb3 := hb2.trans (hx3.mono hb2.size)
        have hm3 := Nat.le_trans hm2 hx3.size
        have B3 := box_below B2 hx3
        have R3 := box_below R2 hx3
        have n3_3 := box_below n3_2 hx3
        have o4_3 := OwnE.below O2 hx3
        refine nextQ B3 ?_
        go_simp
        generalize hW3 : (w2.alloc (.cells #[.int .i64 n] 3)) = w3 at *
        clear hW3
        refine wpAnyP_oneQ (i := 9) (by kernel_rfl) rfl ?_
        go_wp2_with fail
        refine (stripped_any (ns := [n]) (h3.ext hb3) (row_of_box N3 (Array.getElem?_eq_some_iff.1 N3).1) (by omega) (by simp) hf2).mono ?_
        rintro x4 w4 ⟨v4, rfl, ho4, hx4⟩
        have hb4 := hb3.trans (hx4.mono hb3.size)
        have hm4 := Nat.le_trans hm3 hx4.size
        have O4 := OwnE.norm ho4 hm3
        have B4 := box_below B3 hx4
        have R4 := box_below R3 hx4
        have n3_4 := box_below n3_3 hx4
        have n8_4 := box_below N3 hx4
        have o4_4 := OwnE.below o4_3 hx4
        clear ho4
        go_wp2_with fail
        refine nextQ B4 ?_
        go_simp
        refine wpAnyP_oneQ (i := 11) (by kernel_rfl) rfl ?_
        refine wpList_store1 rfl (.tmp 15) (.tmp 9) rfl rfl (by kernel_rfl) w.heap.size 2 rfl v2 rfl (OwnE.one o4_4) cs 25 B4 HC5.1 ?_
        intro w5 B5 hg5 hz5
        have hb5 := hb4.grown hg5 hb4.size (fun q hq => by injection hq with hq; omega)
        have hm5 : w.heap.size + 2 ≤ w5.heap.size := by omega
        have R5 := box_row R4 hg5 (fun e => by injection e with e; omega)
        have n3_5 := box_row n3_4 hg5 (fun e => by injection e with e; omega)
        have n8_5 := box_row n8_4 hg5 (fun e => by injection e with e; omega)
        have o4_5 := OwnE.store o4_4 hg5
        have o9_5 := OwnE.store O4 hg5
        clear hz5
        refine nextQ_bad (by kernel_rfl) ?_
        go_simp
        refine wpAnyP_oneQ (i := 12) (by kernel_rfl) rfl ?_
        go_wp2_with fail
        refine nextQ_bad (by kernel_rfl) ?_
        go_simp
        refine wpAnyP_oneQ (i := 13) (by kernel_rfl) rfl ?_
        refine wpList_store1 rfl (.tmp 16) (.tmp 14) rfl rfl (by kernel_rfl) w.heap.size 4 rfl v4 rfl (OwnE.one o9_5) (patch cs 2 [v2]) 25 B5 (patch_fits HC5) ?_
        intro w7 B7 hg7 hz7
        have hb7 := hb5.grown hg7 hb5.size (fun q hq => by injection hq with hq; omega)
        have hm7 : w.heap.size + 2 ≤ w7.heap.size := by omega
        have R7 := box_row R5 hg7 (fun e => by injection e with e; omega)
        have n3_7 := box_row n3_5 hg7 (fun e => by injection e with e; omega)
        have n8_7 := box_row n8_5 hg7 (fun e => by injection e with e; omega)
        have o4_7 := OwnE.store o4_5 hg7
        have o9_7 := OwnE.store o9_5 hg7
        clear hz7
        refine nextQ_bad (by kernel_rfl) ?_
        go_simp
        refine wpAnyP_done (by kernel_rfl) ?_
        go_simp
        try go_wp2_with fail
        go_meet
        exact ⟨B7, R7, o4_7, o9_7, hb7⟩
      · go_wp2_with fail
        have hx8 : Below w1.heap.size w1 (w1.alloc (.cells #[.int .i64 n] 3)) := ext_alloc (ext_refl _) _
        have N8 : (w1.alloc (.cells #[.int .i64 n] 3)).heap[w1.heap.size]? = some (.cells (ivs [n]).toArray 3 (0, 0)) := heap_alloc_new w1 _
        have hb8 := hb1.trans (hx8.mono hb1.size)
        have hm8 := Nat.le_trans hm1 hx8.size
        have B8 := box_below B1 hx8
        have R8 := box_below R1 hx8
        have n3_8 := box_below N1 hx8
        refine nextQ B8 ?_
        go_simp
        generalize hW8 : (w1.alloc (.cells #[.int .i64 n] 3)) = w8 at *
        clear hW8
        refine wpAnyP_oneQ (i := 4) (by kernel_rfl) rfl ?_
        go_wp2_with fail
        refine (stripped_any (ns := [n]) (h1.ext hb8) (row_of_box n3_8 (Array.getElem?_eq_some_iff.1 n3_8).1) (by omega) (by simp) hf1).mono ?_
        rintro x9 w9 ⟨v9, rfl, ho9, hx9⟩
        have hb9 := hb8.trans (hx9.mono hb8.size)
        have hm9 := Nat.le_trans hm8 hx9.size
        have O9 := OwnE.norm ho9 hm8
        have B9 := box_below B8 hx9
        have R9 := box_below R8 hx9
        have n3_9 := box_below n3_8 hx9
        have n8_9 := box_below N8 hx9
        clear ho9
        go_wp2_with fail
        refine nextQ B9 ?_
        go_simp
        refine wpAnyP_take (i := 10) rfl (by kernel_rfl) (by kernel_rfl) (by kernel_rfl) (by kernel_rfl) (fun _ _ _ h => h) (yieldsIf_run (.pointer (some ⟨w.heap.size, 2, none⟩)) rfl (fun w' => by go_simp)) B9 ?_
        go_simp
        refine wpAnyP_oneQ (i := 9) (by kernel_rfl) rfl ?_
        go_wp2_with fail
        refine (stripped_any (ns := [n]) (h3.ext hb9) (row_of_box n8_9 (Array.getElem?_eq_some_iff.1 n8_9).1) (by omega) (by simp) hf2).mono ?_
        rintro x10 w10 ⟨v10, rfl, ho10, hx10⟩
        have hb10 := hb9.trans (hx10.mono hb9.size)
        have hm10 := Nat.le_trans hm9 hx10.size
        have O10 := OwnE.norm ho10 hm9
        have B10 := box_below B9 hx10
        have R10 := box_below R9 hx10
        have n3_10 := box_below n3_9 hx10
        have n8_10 := box_below n8_9 hx10
        have o4_10 := OwnE.below O9 hx10
        clear ho10
        go_wp2_with fail
        refine nextQ B10 ?_
        go_simp
        refine wpAnyP_oneQ (i := 11) (by kernel_rfl) rfl ?_
        refine wpList_store1 rfl (.tmp 15) (.tmp 9) rfl rfl (by kernel_rfl) w.heap.size 2 rfl v9 rfl (OwnE.one o4_10) cs 25 B10 HC5.1 ?_
        intro w11 B11 hg11 hz11
        have hb11 := hb10.grown hg11 hb10.size (fun q hq => by injection hq with hq; omega)
        have hm11 : w.heap.size + 2 ≤ w11.heap.size := by omega
        have R11 := box_row R10 hg11 (fun e => by injection e with e; omega)
        have n3_11 := box_row n3_10 hg11 (fun e => by injection e with e; omega)
        have n8_11 := box_row n8_10 hg11 (fun e => by injection e with e; omega)
        have o4_11 := OwnE.store o4_10 hg11
        have o9_11 := OwnE.store O10 hg11
        clear hz11
        refine nextQ_bad (by kernel_rfl) ?_
        go_simp
        refine wpAnyP_oneQ (i := 12) (by kernel_rfl) rfl ?_
        go_wp2_with fail
        refine nextQ_bad (by kernel_rfl) ?_
        go_simp
        refine wpAnyP_oneQ (i := 13) (by kernel_rfl) rfl ?_
        refine wpList_store1 rfl (.tmp 16) (.tmp 14) rfl rfl (by kernel_rfl) w.heap.size 4 rfl v10 rfl (OwnE.one o9_11) (patch cs 2 [v9]) 25 B11 (patch_fits HC5) ?_
        intro w13 B13 hg13 hz13
        have hb13 := hb11.grown hg13 hb11.size (fun q hq => by injection hq with hq; omega)
        have hm13 : w.heap.size + 2 ≤ w13.heap.size := by omega
        have R13 := box_row R11 hg13 (fun e => by injection e with e; omega)
        have n3_13 := box_row n3_11 hg13 (fun e => by injection e with e; omega)
        have n8_13 := box_row n8_11 hg13 (fun e => by injection e with e; omega)
        have o4_13 := OwnE.store o4_11 hg13
        have o9_13 := OwnE.store o9_11 hg13
        clear hz13
        refine nextQ_bad (by kernel_rfl) ?_
        go_simp
        refine wpAnyP_done (by kernel_rfl) ?_
        go_simp
        try go_wp2_with fail
        go_meet
        exact ⟨B13, R13, o4_13, o9_13, hb13⟩
    · go_wp2_with fail
      have hx14 : Below wd.heap.size wd (wd.alloc (.cells #[.int .i64 n] 3)) := ext_alloc (ext_refl _) _
      have N14 : (wd.alloc (.cells #[.int .i64 n] 3)).heap[wd.heap.size]? = some (.cells (ivs [n]).toArray 3 (0, 0)) := heap_alloc_new wd _
      have hb14 := hbd.trans (hx14.mono hbd.size)
      have hm14 := Nat.le_trans hm hx14.size
      have B14 := box_below Bd hx14
      have R14 := box_below Rd hx14
      refine nextQ B14 ?_
      go_simp
      generalize hW14 : (wd.alloc (.cells #[.int .i64 n] 3)) = w14 at *
      clear hW14
      refine wpAnyP_oneQ (i := 3) (by kernel_rfl) rfl ?_
      go_wp2_with fail
      have hx15 : Below w14.heap.size w14 (w14.alloc (.cells #[.int .i64 n] 3)) := ext_alloc (ext_refl _) _
      have N15 : (w14.alloc (.cells #[.int .i64 n] 3)).heap[w14.heap.size]? = some (.cells (ivs [n]).toArray 3 (0, 0)) := heap_alloc_new w14 _
      have hb15 := hb14.trans (hx15.mono hb14.size)
      have hm15 := Nat.le_trans hm14 hx15.size
      have B15 := box_below B14 hx15
      have R15 := box_below R14 hx15
      have n8_15 := box_below N14 hx15
      refine nextQ B15 ?_
      go_simp
      generalize hW15 : (w14.alloc (.cells #[.int .i64 n] 3)) = w15 at *
      clear hW15
      refine wpAnyP_oneQ (i := 4) (by kernel_rfl) rfl ?_
      go_wp2_with fail
      refine (stripped_any (ns := [n]) (h1.ext hb15) (row_of_box N15 (Array.getElem?_eq_some_iff.1 N15).1) (by omega) (by simp) hf1).mono ?_
      rintro x16 w16 ⟨v16, rfl, ho16, hx16⟩
      have hb16 := hb15.trans (hx16.mono hb15.size)
      have hm16 := Nat.le_trans hm15 hx16.size
      have O16 := OwnE.norm ho16 hm15
      have B16 := box_below B15 hx16
      have R16 := box_below R15 hx16
      have n3_16 := box_below N15 hx16
      have n8_16 := box_below n8_15 hx16
      clear ho16
      go_wp2_with fail
      refine nextQ B16 ?_
      go_simp
      refine wpAnyP_take (i := 10) rfl (by kernel_rfl) (by kernel_rfl) (by kernel_rfl) (by kernel_rfl) (fun _ _ _ h => h) (yieldsIf_run (.pointer (some ⟨w.heap.size, 2, none⟩)) rfl (fun w' => by go_simp)) B16 ?_
      go_simp
      refine wpAnyP_oneQ (i := 9) (by kernel_rfl) rfl ?_
      go_wp2_with fail
      refine (stripped_any (ns := [n]) (h3.ext hb16) (row_of_box n8_16 (Array.getElem?_eq_some_iff.1 n8_16).1) (by omega) (by simp) hf2).mono ?_
      rintro x17 w17 ⟨v17, rfl, ho17, hx17⟩
      have hb17 := hb16.trans (hx17.mono hb16.size)
      have hm17 := Nat.le_trans hm16 hx17.size
      have O17 := OwnE.norm ho17 hm16
      have B17 := box_below B16 hx17
      have R17 := box_below R16 hx17
      have n3_17 := box_below n3_16 hx17
      have n8_17 := box_below n8_16 hx17
      have o4_17 := OwnE.below O16 hx17
      clear ho17
      go_wp2_with fail
      refine nextQ B17 ?_
      go_simp
      refine wpAnyP_oneQ (i := 11) (by kernel_rfl) rfl ?_
      refine wpList_store1 rfl (.tmp 15) (.tmp 9) rfl rfl (by kernel_rfl) w.heap.size 2 rfl v16 rfl (OwnE.one o4_17) cs 25 B17 HC5.1 ?_
      intro w18 B18 hg18 hz18
      have hb18 := hb17.grown hg18 hb17.size (fun q hq => by injection hq with hq; omega)
      have hm18 : w.heap.size + 2 ≤ w18.heap.size := by omega
      have R18 := box_row R17 hg18 (fun e => by injection e with e; omega)
      have n3_18 := box_row n3_17 hg18 (fun e => by injection e with e; omega)
      have n8_18 := box_row n8_17 hg18 (fun e => by injection e with e; omega)
      have o4_18 := OwnE.store o4_17 hg18
      have o9_18 := OwnE.store O17 hg18
      clear hz18
      refine nextQ_bad (by kernel_rfl) ?_
      go_simp
      refine wpAnyP_oneQ (i := 12) (by kernel_rfl) rfl ?_
      go_wp2_with fail
      refine nextQ_bad (by kernel_rfl) ?_
      go_simp
      refine wpAnyP_oneQ (i := 13) (by kernel_rfl) rfl ?_
      refine wpList_store1 rfl (.tmp 16) (.tmp 14) rfl rfl (by kernel_rfl) w.heap.size 4 rfl v17 rfl (OwnE.one o9_18) (patch cs 2 [v16]) 25 B18 (patch_fits HC5) ?_
      intro w20 B20 hg20 hz20
      have hb20 := hb18.grown hg20 hb18.size (fun q hq => by injection hq with hq; omega)
      have hm20 : w.heap.size + 2 ≤ w20.heap.size := by omega
      have R20 := box_row R18 hg20 (fun e => by injection e with e; omega)
      have n3_20 := box_row n3_18 hg20 (fun e => by injection e with e; omega)
      have n8_20 := box_row n8_18 hg20 (fun e => by injection e with e; omega)
      have o4_20 := OwnE.store o4_18 hg20
      have o9_20 := OwnE.store o9_18 hg20
      clear hz20
      refine nextQ_bad (by kernel_rfl) ?_
      go_simp
      refine wpAnyP_done (by kernel_rfl) ?_
      go_simp
      try go_wp2_with fail
      go_meet
      exact ⟨B20, R20, o4_20, o9_20, hb20⟩
  case rest =>
    obtain ⟨BX, RX, O4, O9, hbX⟩ := hcut
    obtain ⟨C, hC⟩ : ∃ C, C = patch (patch cs 2 [u9]) 4 [u14] := ⟨_, rfl⟩
    have hCC : C = vwCells V u9 (.slice A2 V.gaps.length c2) u14 := by rw [hC, HCS.out]; rfl
    rw [← hC] at BX
    have hp : C.length = 5 := by rw [hCC]; rfl
    have hpo : ∀ u ∈ C, u.oneCell' = true := by
      intro u hu
      rw [hCC] at hu
      simp only [vwCells, List.mem_cons, List.not_mem_nil, or_false] at hu
      rcases hu with rfl | rfl | rfl | rfl | rfl
      · rfl
      · rfl
      · exact OwnE.one O4
      · rfl
      · exact OwnE.one O9
    have HCC := hide hCC
    have H4 := hide O4; have H9 := hide O9
    clear hC hCC O4 O9
    go_wp2_with (first
      | refine wpList_loadS rfl (.tmp 2) rfl strcV ⟨w.heap.size, 0, none⟩ rfl C hp (box_all BX) ?_
      | refine wpList_storeB rfl (.tmp 4) (.tmp 17) rfl rfl strcV (w.heap.size + 1) 0 rfl C rfl hp hpo vwZero.toList 25 RX (by decide) ?_)
    intro w3 hB3 g2 hz3
    rw [patch_all _ _ (by rw [hp]; rfl)] at hB3
    have hb3 := hbX.grown g2 hbX.size (fun q hq => by injection hq with hq; omega)
    have HEND : Hid (GivesV S (redactV V n) w (.returned (.agg C.toArray)) w3) := ⟨C, rfl, ⟨u9, _, u14, HCC.out, ((OwnE.store1 H4.out g2 (by omega) (by omega)).evs).weak (fun b hb _ => hb.imp And.left fun h => by omega), h2.ext hb3, ((OwnE.store1 H9.out g2 (by omega) (by omega)).evs).weak (fun b hb _ => hb.imp And.left fun h => by omega)⟩, hb3⟩
    go_wp2_with fail
    exact bodyPost_cell strcV rfl (w.heap.size + 1) rfl rfl hB3 (by simpa using hp) HEND.out
end Go.Proofs.Ytbehflldghhopaa

/-
  The law's live: the chapter's examples hold.
-/
import Derived.Test.YtbehflldghhopaaExamples
import Derived.Test.YtbehflldghhopaaPhases
set_option linter.unusedVariables false
set_option linter.unusedSimpArgs false
namespace Go.Proofs.Ytbehflldghhopaa
open Go.RowKit
attribute [local go_sem] Addr.add_mid

theorem numL_fit (a : Int) (n : Nat) : ∀ e ∈ numL a n, e.con.fit := by
  induction n with
  | zero => simp [numL]
  | succ n ih =>
    intro e he
    rcases List.mem_append.1 he with h | h
    · exact ih e h
    · rw [List.mem_singleton] at h; subst h; exact ⟨Nat.zero_le _, Nat.zero_le _, Nat.zero_le _, Nat.zero_le _⟩
theorem VwR.length {w : World} {S : Nat → Prop} {cs : List Value} {V : Vw} (h : VwR w S cs V) : cs.length = 5 := by obtain ⟨_, _, _, rfl, _⟩ := h; rfl
theorem VwR.one {w : World} {S : Nat → Prop} {cs : List Value} {V : Vw} (h : VwR w S cs V) : ∀ u ∈ cs, u.oneCell' = true := by
  obtain ⟨_, _, _, _, _, _, rfl, _⟩ := h.form
  intro u hu
  simp only [vwCells, List.mem_cons, List.not_mem_nil, or_false] at hu
  rcases hu with rfl | rfl | rfl | rfl | rfl <;> rfl
theorem fit_app {a b : List Ev} (h1 : ∀ e ∈ a, e.con.fit) (h2 : ∀ e ∈ b, e.con.fit) : ∀ e ∈ a ++ b, e.con.fit := fun e he => (List.mem_append.1 he).elim (h1 e) (h2 e)
theorem part1_fit : part1.fit := ⟨numL_fit 1 2, fun e he => by simp [part1] at he⟩
theorem part2_fit : part2.fit := ⟨numL_fit 8 2, fun e he => by simp [part2] at he⟩
theorem exV_fit {l : List Ev} {g : List (Int × Int)} (h : ∀ e ∈ l, e.con.fit) : (exV l g).fit := ⟨h, fun e he => by simp [exV] at he⟩

/-- two numbers side by side: a gap's cells -/
theorem gap_cells {w : World} {v : Value} {g : Int × Int} {l : List (Int × Int)} (h : Slc w Any v 2 (g :: l).length (kcs (g :: l))) : ∃ b o c, v = .slice (some ⟨b, o, none⟩) (l.length + 1) c ∧ w.rangeAt b o [.int .i64 g.1, .int .i64 g.2] := by
  obtain ⟨A, c, rfl, _, _, _, hr, _⟩ := h.form
  obtain ⟨b, o, rfl, _, hc⟩ := Row.fix hr (kcs_get (g :: l) 0 (by simp)).1
  refine ⟨b, o, c, rfl, fun i u hu => ?_⟩
  match i, hu with
  | 0, hu => rw [← Option.some.inj hu]; exact hc _ _ (kcs_get (g :: l) 0 (by simp)).1
  | 1, hu => rw [← Option.some.inj hu]; exact hc _ _ (kcs_get (g :: l) 0 (by simp)).2

theorem VwR.anyV {w : World} {S : Nat → Prop} {cs : List Value} {V : Vw} (h : VwR w S cs V) : VwR w Any cs V := by
  obtain ⟨ve, vg, vs, rfl, h1, h2, h3⟩ := h
  exact ⟨ve, vg, vs, rfl, h1.any, h2, h3.any⟩
theorem VwR.offNew {w : World} {S : Nat → Prop} {cs : List Value} {V : Vw} (h : VwR w S cs V) : VwR w (· ≠ w.heap.size) cs V := by
  obtain ⟨ve, vg, vs, rfl, h1, h2, h3⟩ := h
  exact ⟨ve, vg, vs, rfl, h1.weak fun b _ hb => Nat.ne_of_lt hb, h2, h3.weak fun b _ hb => Nat.ne_of_lt hb⟩
theorem EvR.some10 {w : World} {S : Nat → Prop} {cs : List Value} {e : Ev} (h : EvR w S cs e) : cs[10]? = some (.string e.con.text) := by obtain ⟨_, _, _, _, _, _, rfl, _⟩ := h; rfl
theorem numL_i64 (a : Int) (n : Nat) (h1 : 0 ≤ a) (h2 : a + (n : Int) ≤ 1000000) : ∀ e ∈ numL a n, I64 e.id := by
  induction n with
  | zero => simp [numL]
  | succ n ih =>
    intro e he
    rcases List.mem_append.1 he with h | h
    · exact ih (by omega) e h
    · rw [List.mem_singleton] at h; subst h; show I64 (a + (n : Int)); unfold I64; omega
/-- a zero view's box -/
def ZBox (w : World) (g : Nat) : Prop := w.heap[g]? = some (.cells vwZero 25 (0, 0))
/-- a variable that holds a view -/
def LiveAt (n : Nat) (V : Vw) (v : Value) (w : World) : Prop := ∃ g, n ≤ g ∧ v = .pointer (some ⟨g, 0, none⟩) ∧ VBox w g V

theorem ZBox.lt {w : World} {g : Nat} (h : ZBox w g) : g < w.heap.size := (Array.getElem?_eq_some_iff.1 h).1
theorem ZBox.ext {w w' : World} {g : Nat} (h : ZBox w g) (hb : Below w.heap.size w w') : ZBox w' g := box_below h hb
theorem ZBox.zeroB {w : World} {g : Nat} (h : ZBox w g) : w.heap[g]? = some (.cells vwZero.toList.toArray 25 (0, 0)) := h
theorem ZBox.vb {w : World} {g : Nat} (h : ZBox w g) : VBox w g zeroVw := ⟨vwZero.toList, h, vwZero_R _ _⟩

set_option maxRecDepth 100000 in
set_option maxHeartbeats 8000000 in
theorem live_any (w : World) : Calls Try.prog 20 #[] w (Says true w) := by
  go_enter Try.func20, Try.ntmps20
  go_wp2_with fail
  refine (numbered_any (n := 2) (by decide) (by decide) (by decide) (by decide)).mono ?_
  rintro x w1 ⟨v1, rfl, ho1, hb1⟩
  obtain ⟨A1, c1, _, rfl, _⟩ := ho1.evs.form
  have p1 := part_R (p := part1) (ho1.evs.weak (S' := Any) fun _ h _ => h.elim) rfl rfl
  go_wp2_with fail
  refine (Apply_any (vwZero_R _ Any) p1 (by decide) ⟨fun e he => by simp [zeroVw] at he, fun e he => by simp [zeroVw] at he⟩ part1_fit).mono ?_
  rintro x w2 ⟨cs2, rfl, hv2, hb2⟩
  rw [ex1] at hv2
  have hl2 := hv2.length; have ho2 := hv2.one
  have X2 := VBox.new hv2
  have hb02 := hb1.trans (hb2.mono hb1.size)
  have hb03 : Below w.heap.size w (w2.alloc (.cells cs2.toArray 25)) := ext_alloc hb02 _
  clear ho1 p1 hb2 hb1
  go_upto_region 2 with (refine wpList_newS rfl rfl strcV rfl (.tmp 1) (.tmp 14) rfl rfl rfl cs2.toArray rfl (by simpa using hl2) (by simpa using ho2) ?_)
  generalize hW : w2.alloc (.cells cs2.toArray 25) = W at *
  have hgl := X2.lt
  have hgw : w.heap.size ≤ w2.heap.size := hb02.size
  clear hW hv2 hl2 ho2 hb02
  generalize hg : w2.heap.size = g1 at *
  clear hg
  have hbx : Below W.heap.size W W.drew := ext_drew (ext_refl W)
  obtain ⟨cs2', hB2, hv2'⟩ := X2.ext hbx
  have hb4 := hb03.trans (hbx.mono hb03.size)
  have hgl' := Nat.lt_of_lt_of_le hgl hbx.size
  obtain ⟨wd, hWD⟩ : ∃ wd, wd = W.drew := ⟨_, rfl⟩
  rw [← hWD] at hB2 hv2' hb4 hgl'
  have T1 := box_all hB2
  refine wp_region_phase (fun w' => CellsAt w' ⟨g1, 0, none⟩ cs2') [4] (by kernel_rfl) ?_
  rw [show { W with drawn := W.drawn + 1 } = wd from hWD.symm]
  clear hWD hbx hb03 X2 hgl
  refine wpAnyP_take (i := 0) rfl (by kernel_rfl) (by kernel_rfl) (by kernel_rfl) (by kernel_rfl) (fun _ _ _ h => h) (yieldsIf_loadS rfl (.tmp 1) rfl strcV ⟨g1, 0, none⟩ rfl cs2' hv2'.length (fun w' hT => hT)) T1 ?_
  go_simp
  refine wpAnyP_oneQ (i := 1) (by kernel_rfl) rfl ?_
  go_wp2_with fail
  refine (numbered_any (n := 2) (by decide) (by decide) (by decide) (by decide)).mono ?_
  rintro x w5 ⟨v5, rfl, ho5, hb5⟩
  obtain ⟨A5, c5, _, rfl, _⟩ := ho5.evs.form
  have p5 := part_R (p := part2) (ho5.evs.weak (S' := (· ≠ g1)) fun _ h _ => h.elim) rfl rfl
  have hv5 := hv2'.ext hb5
  have B5 := box_below hB2 hb5
  have hb05 := hb4.trans (hb5.mono hb4.size)
  have hgl5 := Nat.lt_of_lt_of_le hgl' hb5.size
  clear ho5 hb5 hv2' hB2 T1 hgl' hb4
  go_wp2_with fail
  refine nextQ (box_all B5) ?_
  go_simp
  refine wpAnyP_oneQ (i := 2) (by kernel_rfl) rfl ?_
  go_wp2_with fail
  refine nextQ (box_all B5) ?_
  go_simp
  refine wpAnyP_oneQ (i := 3) (by kernel_rfl) rfl ?_
  go_wp2_with fail
  refine (Apply_any hv5 p5 (by decide) (exV_fit (numL_fit 1 2)) part2_fit).mono ?_
  intro x w6 hx6
  obtain ⟨cs6, rfl, hv6, hb6⟩ := hx6.off hgl5 (fun b hb => hb)
  rw [ex2] at hv6
  have X6 : VBox w6 g1 (exV (numL 1 2) []) := ⟨cs2', box_below B5 hb6, hv5.ext hb6⟩
  have B6 := box_below B5 hb6
  have hb06 := hb05.trans (hb6.mono hb05.size)
  clear hx6 hb6 hb05 B5 p5
  go_wp2_with fail
  refine nextQ (box_all B6) ?_
  go_simp
  refine wpAnyP_oneQ (i := 4) (by kernel_rfl) rfl ?_
  refine wpList_storeB rfl (.tmp 1) (.tmp 18) rfl rfl strcV g1 0 rfl cs6 rfl hv6.length hv6.one cs2' 25 B6 (by rw [hv5.length]; decide) ?_
  intro w7 hB7 hg7 hz7
  rw [patch_all _ _ (by rw [hv6.length, hv5.length])] at hB7
  have X7 := X6.store hv6 hg7 hB7
  have hb7 : Below w.heap.size w w7 := hb06.grown hg7 hb06.size (fun q hq => by injection hq with hq; omega)
  refine nextQ_bad (by kernel_rfl) ?_
  clear hB7 hg7 hz7 X6 B6 hb06 hv6 hv5 hgl5
  go_simp
  refine wpAnyP_done (by kernel_rfl) ?_
  go_simp
  go_upto_region 3 with fail
  go_cut [2] (fun t wx => t = .bool true ∧ Below w7.heap.size w7 wx)
  case first =>
    obtain ⟨cs7, hB7, hv7⟩ := X7
    go_wp2_with (refine wpList_loadS rfl (.tmp 1) rfl strcV ⟨g1, 0, none⟩ rfl cs7 hv7.length (box_all hB7) ?_)
    refine (VIds_any hv7 (by decide)).mono ?_
    rintro x w8 ⟨v8, rfl, ho8, hb8⟩
    have ho8' : w8.ownsRow w7.heap.size 3 1 v8 4 (ivs [1, 2, 8, 9]) := by have h := ho8; rw [show ids (exV (numL 1 2 ++ numL 8 2) [(2, 7)]).events = [1, 2, 8, 9] from ex8.1] at h; exact h
    obtain ⟨A8, c8, rfl, _⟩ := own_form ho8'
    have hr8 := Row.own ho8'
    obtain ⟨ve, vg, vs, hcs7, _, hgp, _⟩ := hv7
    obtain ⟨bg, og, cg, rfl, hrg⟩ := gap_cells hgp
    have s3 : cs7[3]? = some (.slice (some ⟨bg, og, none⟩) 1 cg) := by rw [hcs7]; rfl
    clear ho8 ho8' hgp hcs7
    go_wp2_with fail
    have hx9 : Below w8.heap.size w8 (w8.alloc (.cells #[.int .i64 1, .int .i64 2, .int .i64 8, .int .i64 9] 3)) := ext_alloc (ext_refl _) _
    have hr9 := row_lit w8 (ivs [1, 2, 8, 9]) #[.int .i64 1, .int .i64 2, .int .i64 8, .int .i64 9] 3 rfl rfl
    refine (R1Same_any (l := [1, 2, 8, 9]) (m := [1, 2, 8, 9]) (hr8.ext hx9) hr9 (by decide) (by decide)).mono ?_
    rintro x w9 ⟨rfl, nq, rfl⟩
    have hb9 := hb8.trans ((below_drewN hx9 nq).mono hb8.size)
    have B9 := box_below hB7 hb9
    have r3 := box_at B9 s3
    have rg := range_below hrg hb9
    clear hr8 hr9 hx9 hB7 hrg hb8
    generalize hW9 : (w8.alloc (.cells #[.int .i64 1, .int .i64 2, .int .i64 8, .int .i64 9] 3)).drewN nq = w10 at *
    clear hW9
    go_wp2_with (refine wpList_loadS rfl (.tmp 32) rfl strcG ⟨bg, og, none⟩ rfl [.int .i64 2, .int .i64 7] rfl (cells_range rg) ?_)
    go_meet
    exact ⟨rfl, hb9⟩
  case rest =>
    obtain ⟨rfl, hb8⟩ := hcut
    have hb9 := hb7.trans (hb8.mono hb7.size)
    have X9 := X7.ext hb8
    clear X7 hb8 hb7
    go_upto_region 4 with fail
    go_cut [3, 4] (fun t u wx => LiveAt w.heap.size (exV (numL 1 2 ++ (numL 5 3 ++ numL 8 2)) [(2, 4)]) t wx ∧ u = .int .i64 0 ∧ Below w.heap.size w wx)
    case first =>
      have hbx : Below wc.heap.size wc wc.drew := ext_drew (ext_refl wc)
      obtain ⟨cs9, hB9, hv9⟩ := X9.ext hbx
      have hb10 := hb9.trans (hbx.mono hb9.size)
      obtain ⟨wd, hWD⟩ : ∃ wd, wd = wc.drew := ⟨_, rfl⟩
      rw [← hWD] at hB9 hv9 hb10
      have hva := hv9.anyV
      refine wp_region_phase (fun w' => CellsAt w' ⟨g1, 0, none⟩ cs9) [7] (by kernel_rfl) ?_
      rw [show { wc with drawn := wc.drawn + 1 } = wd from hWD.symm]
      clear hWD hbx X9 hb9
      refine wpAnyP_take (i := 0) rfl (by kernel_rfl) (by kernel_rfl) (by kernel_rfl) (by kernel_rfl) (fun _ _ _ h => h) (yieldsIf_loadS rfl (.tmp 1) rfl strcV ⟨g1, 0, none⟩ rfl cs9 hv9.length (fun w' hT => hT)) (box_all hB9) ?_
      go_simp
      have hin9 : (exV (numL 1 2 ++ numL 8 2) [(2, 7)]).inside := by decide +kernel
      have hfi : fillE (exV (numL 1 2 ++ numL 8 2) [(2, 7)]) 0 = 0 := by decide +kernel
      clear hv9
      refine wpAnyP_twoQ (i := 1) (j := 6) (by kernel_rfl) rfl rfl ?_ ?_
      · go_wp2_with fail
        refine (numbered_any (n := 3) (by decide) (by decide) (by decide) (by decide)).mono ?_
        rintro x w11 ⟨q11, rfl, ho11, hx11⟩
        obtain ⟨A11, c11, _, rfl, _⟩ := ho11.evs.form
        have v11 := hva.ext hx11
        have hb11 := hb10.trans (hx11.mono hb10.size)
        have B11 := box_below hB9 hx11
        have o11 := ho11.evs
        clear ho11
        go_wp2_with fail
        refine nextQ (box_all B11) ?_
        go_simp
        refine wpAnyP_twoQ (i := 2) (j := 6) (by kernel_rfl) rfl rfl ?_ ?_
        · go_wp2_with fail
          refine (Fill_any v11 (o11.weak (S' := Any) fun _ h _ => h.elim) (by decide) hin9).mono ?_
          rintro x w12 ⟨f12, rfl, v12, hy12⟩
          rw [ex3] at v12
          have hb12 := hb11.trans (hy12.mono hb11.size)
          have B12 := box_below B11 hy12
          go_wp2_with fail
          refine nextQ (box_all B12) ?_
          go_simp
          refine wpAnyP_take (i := 3) rfl (by kernel_rfl) (by kernel_rfl) (by kernel_rfl) (by kernel_rfl) (fun _ _ _ h => h) (yieldsIf_run (.tuple #[.agg f12.toArray, .int .i64 0]) rfl (fun w' => by go_simp; try rw [hfi])) (box_all B12) ?_
          go_simp
          refine wpAnyP_take (i := 4) rfl (by kernel_rfl) (by kernel_rfl) (by kernel_rfl) (by kernel_rfl) (fun _ _ _ h => h) (yieldsIf_run (.agg f12.toArray) rfl (fun w' => by go_simp)) (box_all B12) ?_
          refine wpAnyP_takeU (i := 5) rfl (by kernel_rfl) (by kernel_rfl) (by kernel_rfl) (by kernel_rfl) (fun _ _ _ h => h) (yieldsIf_run (.int .i64 0) rfl (fun w' => by go_simp)) (box_all B12) ?_
          go_simp
          refine wpAnyP_oneQ (i := 6) (by kernel_rfl) rfl ?_
          refine wpList_zeroS rfl rfl strcV ?_
          have hx13 : Below w12.heap.size w12 (w12.alloc (.cells vwZero 25)) := ext_alloc (ext_refl _) _
          have X13 : ZBox (w12.alloc (.cells vwZero 25)) w12.heap.size := heap_alloc_new _ _
          have v13 := (v12.offNew).ext hx13
          have hb13 := hb12.trans (hx13.mono hb12.size)
          have B13 := box_below B12 hx13
          have hg13 := X13.lt
          have hge13 := hb12.size
          refine nextQ (box_all B13) ?_
          go_simp
          generalize hW13 : w12.alloc (.cells vwZero 25) = w13 at *
          generalize hG13 : w12.heap.size = g3 at *
          clear hW13 hx13
          refine wpAnyP_oneQ (i := 7) (by kernel_rfl) rfl ?_
          refine wpList_storeB rfl (.tmp 3) (.tmp 41) rfl rfl strcV g3 0 rfl f12 rfl v13.length v13.one vwZero.toList 25 X13.zeroB (by decide) ?_
          intro w14 hB14 hg14 hz14
          rw [patch_all _ _ (by rw [v13.length]; rfl)] at hB14
          have X14 := X13.vb.store v13 hg14 hB14
          have hb14 : Below w.heap.size w w14 := hb13.grown hg14 hb13.size (fun q hq => by injection hq with hq; omega)
          refine nextQ_bad (by kernel_rfl) ?_
          go_simp
          refine wpAnyP_oneQ (i := 8) (by kernel_rfl) rfl ?_
          go_wp2_with fail
          refine nextQ_bad (by kernel_rfl) ?_
          go_simp
          refine wpAnyP_done (by kernel_rfl) ?_
          go_simp
          try go_wp2_with fail
          go_meet
          exact ⟨⟨g3, by omega, rfl, X14⟩, rfl, hb14⟩
        · refine wpList_zeroS rfl rfl strcV ?_
          have hx16 : Below w11.heap.size w11 (w11.alloc (.cells vwZero 25)) := ext_alloc (ext_refl _) _
          have X16 : ZBox (w11.alloc (.cells vwZero 25)) w11.heap.size := heap_alloc_new _ _
          have v16 := (v11.offNew).ext hx16
          have hb16 := hb11.trans (hx16.mono hb11.size)
          have B16 := box_below B11 hx16
          have hg16 := X16.lt
          have hge16 := hb11.size
          have o16 := o11.ext hx16
          refine nextQ (box_all B16) ?_
          go_simp
          generalize hW16 : w11.alloc (.cells vwZero 25) = w16 at *
          generalize hG16 : w11.heap.size = g3 at *
          clear hW16 hx16
          refine wpAnyP_oneQ (i := 2) (by kernel_rfl) rfl ?_
          go_wp2_with fail
          refine (Fill_any v16 (o16.weak (S' := (· ≠ g3)) fun _ h _ => h.elim) (by decide) hin9).mono ?_
          intro x w17 hx17
          obtain ⟨f17, rfl, v17, hy17⟩ := hx17.off hg16 (fun b hb => hb)
          have X17 := X16.ext hy17
          rw [ex3] at v17
          have hb17 := hb16.trans (hy17.mono hb16.size)
          have B17 := box_below B16 hy17
          go_wp2_with fail
          refine nextQ (box_all B17) ?_
          go_simp
          refine wpAnyP_take (i := 3) rfl (by kernel_rfl) (by kernel_rfl) (by kernel_rfl) (by kernel_rfl) (fun _ _ _ h => h) (yieldsIf_run (.tuple #[.agg f17.toArray, .int .i64 0]) rfl (fun w' => by go_simp; try rw [hfi])) (box_all B17) ?_
          go_simp
          refine wpAnyP_take (i := 4) rfl (by kernel_rfl) (by kernel_rfl) (by kernel_rfl) (by kernel_rfl) (fun _ _ _ h => h) (yieldsIf_run (.agg f17.toArray) rfl (fun w' => by go_simp)) (box_all B17) ?_
          refine wpAnyP_takeU (i := 5) rfl (by kernel_rfl) (by kernel_rfl) (by kernel_rfl) (by kernel_rfl) (fun _ _ _ h => h) (yieldsIf_run (.int .i64 0) rfl (fun w' => by go_simp)) (box_all B17) ?_
          go_simp
          refine wpAnyP_oneQ (i := 7) (by kernel_rfl) rfl ?_
          refine wpList_storeB rfl (.tmp 3) (.tmp 41) rfl rfl strcV g3 0 rfl f17 rfl v17.length v17.one vwZero.toList 25 X17.zeroB (by decide) ?_
          intro w18 hB18 hg18 hz18
          rw [patch_all _ _ (by rw [v17.length]; rfl)] at hB18
          have X18 := X17.vb.store v17 hg18 hB18
          have hb18 : Below w.heap.size w w18 := hb17.grown hg18 hb17.size (fun q hq => by injection hq with hq; omega)
          refine nextQ_bad (by kernel_rfl) ?_
          go_simp
          refine wpAnyP_oneQ (i := 8) (by kernel_rfl) rfl ?_
          go_wp2_with fail
          refine nextQ_bad (by kernel_rfl) ?_
          go_simp
          refine wpAnyP_done (by kernel_rfl) ?_
          go_simp
          try go_wp2_with fail
          go_meet
          exact ⟨⟨g3, by omega, rfl, X18⟩, rfl, hb18⟩
      · refine wpList_zeroS rfl rfl strcV ?_
        have hx20 : Below wd.heap.size wd (wd.alloc (.cells vwZero 25)) := ext_alloc (ext_refl _) _
        have X20 : ZBox (wd.alloc (.cells vwZero 25)) wd.heap.size := heap_alloc_new _ _
        have v20 := (hva.offNew).ext hx20
        have hb20 := hb10.trans (hx20.mono hb10.size)
        have B20 := box_below hB9 hx20
        have hg20 := X20.lt
        have hge20 := hb10.size
        refine nextQ (box_all B20) ?_
        go_simp
        generalize hW20 : wd.alloc (.cells vwZero 25) = w20 at *
        generalize hG20 : wd.heap.size = g3 at *
        clear hW20 hx20
        refine wpAnyP_oneQ (i := 1) (by kernel_rfl) rfl ?_
        go_wp2_with fail
        refine (numbered_any (n := 3) (by decide) (by decide) (by decide) (by decide)).mono ?_
        rintro x w21 ⟨q21, rfl, ho21, hx21⟩
        obtain ⟨A21, c21, _, rfl, _⟩ := ho21.evs.form
        have v21 := v20.ext hx21
        have hb21 := hb20.trans (hx21.mono hb20.size)
        have B21 := box_below B20 hx21
        have o21 := ho21.evs
        clear ho21
        have X21 := X20.ext hx21
        have hg21 := X21.lt
        go_wp2_with fail
        refine nextQ (box_all B21) ?_
        go_simp
        refine wpAnyP_oneQ (i := 2) (by kernel_rfl) rfl ?_
        go_wp2_with fail
        refine (Fill_any v21 (o21.weak (S' := (· ≠ g3)) fun _ h _ => h.elim) (by decide) hin9).mono ?_
        intro x w22 hx22
        obtain ⟨f22, rfl, v22, hy22⟩ := hx22.off hg21 (fun b hb => hb)
        have X22 := X21.ext hy22
        rw [ex3] at v22
        have hb22 := hb21.trans (hy22.mono hb21.size)
        have B22 := box_below B21 hy22
        go_wp2_with fail
        refine nextQ (box_all B22) ?_
        go_simp
        refine wpAnyP_take (i := 3) rfl (by kernel_rfl) (by kernel_rfl) (by kernel_rfl) (by kernel_rfl) (fun _ _ _ h => h) (yieldsIf_run (.tuple #[.agg f22.toArray, .int .i64 0]) rfl (fun w' => by go_simp; try rw [hfi])) (box_all B22) ?_
        go_simp
        refine wpAnyP_take (i := 4) rfl (by kernel_rfl) (by kernel_rfl) (by kernel_rfl) (by kernel_rfl) (fun _ _ _ h => h) (yieldsIf_run (.agg f22.toArray) rfl (fun w' => by go_simp)) (box_all B22) ?_
        refine wpAnyP_takeU (i := 5) rfl (by kernel_rfl) (by kernel_rfl) (by kernel_rfl) (by kernel_rfl) (fun _ _ _ h => h) (yieldsIf_run (.int .i64 0) rfl (fun w' => by go_simp)) (box_all B22) ?_
        go_simp
        refine wpAnyP_oneQ (i := 7) (by kernel_rfl) rfl ?_
        refine wpList_storeB rfl (.tmp 3) (.tmp 41) rfl rfl strcV g3 0 rfl f22 rfl v22.length v22.one vwZero.toList 25 X22.zeroB (by decide) ?_
        intro w23 hB23 hg23 hz23
        rw [patch_all _ _ (by rw [v22.length]; rfl)] at hB23
        have X23 := X22.vb.store v22 hg23 hB23
        have hb23 : Below w.heap.size w w23 := hb22.grown hg23 hb22.size (fun q hq => by injection hq with hq; omega)
        refine nextQ_bad (by kernel_rfl) ?_
        go_simp
        refine wpAnyP_oneQ (i := 8) (by kernel_rfl) rfl ?_
        go_wp2_with fail
        refine nextQ_bad (by kernel_rfl) ?_
        go_simp
        refine wpAnyP_done (by kernel_rfl) ?_
        go_simp
        try go_wp2_with fail
        go_meet
        exact ⟨⟨g3, by omega, rfl, X23⟩, rfl, hb23⟩
    case rest =>
      obtain ⟨⟨g3, hge, rfl, X10⟩, rfl, hb10⟩ := hcut
      clear X9 hb9
      have hg3 := X10.lt
      go_upto_region 5 with fail
      go_cut [5] (fun t wx => t = .bool true ∧ Below wc.heap.size wc wx)
      case first =>
        obtain ⟨cs7, hB7, hv7⟩ := X10
        go_wp2_with (refine wpList_loadS rfl (.tmp 3) rfl strcV ⟨g3, 0, none⟩ rfl cs7 hv7.length (box_all hB7) ?_)
        refine (VIds_any hv7 (by decide)).mono ?_
        rintro x w8 ⟨v8, rfl, ho8, hb8⟩
        have ho8' : w8.ownsRow wc.heap.size 3 1 v8 7 (ivs [1, 2, 5, 6, 7, 8, 9]) := by have h := ho8; rw [show ids (exV (numL 1 2 ++ (numL 5 3 ++ numL 8 2)) [(2, 4)]).events = [1, 2, 5, 6, 7, 8, 9] from ex8.2.1] at h; exact h
        obtain ⟨A8, c8, rfl, _⟩ := own_form ho8'
        have hr8 := Row.own ho8'
        have hvk := hv7
        obtain ⟨ve, vg, vs, hcs7, _, hgp, _⟩ := hv7
        obtain ⟨bg, og, cg, rfl, hrg⟩ := gap_cells hgp
        have s3 : cs7[3]? = some (.slice (some ⟨bg, og, none⟩) 1 cg) := by rw [hcs7]; rfl
        clear ho8 ho8' hgp hcs7
        go_wp2_with fail
        have hx9 : Below w8.heap.size w8 (w8.alloc (.cells #[.int .i64 1, .int .i64 2, .int .i64 5, .int .i64 6, .int .i64 7, .int .i64 8, .int .i64 9] 3)) := ext_alloc (ext_refl _) _
        have hr9 := row_lit w8 (ivs [1, 2, 5, 6, 7, 8, 9]) #[.int .i64 1, .int .i64 2, .int .i64 5, .int .i64 6, .int .i64 7, .int .i64 8, .int .i64 9] 3 rfl rfl
        refine (R1Same_any (l := [1, 2, 5, 6, 7, 8, 9]) (m := [1, 2, 5, 6, 7, 8, 9]) (hr8.ext hx9) hr9 (by decide) (by decide)).mono ?_
        rintro x w9 ⟨rfl, nq, rfl⟩
        have hb9 := hb8.trans ((below_drewN hx9 nq).mono hb8.size)
        have B9 := box_below hB7 hb9
        have r3 := box_at B9 s3
        have rg := range_below hrg hb9
        have HV := hide (hvk.ext hb9)
        have hvl := hvk.length
        clear hr8 hr9 hx9 hB7 hrg hb8 hvk
        generalize hW9 : (w8.alloc (.cells #[.int .i64 1, .int .i64 2, .int .i64 5, .int .i64 6, .int .i64 7, .int .i64 8, .int .i64 9] 3)).drewN nq = w10 at *
        clear hW9
        go_wp2_with (first
          | refine wpList_loadS rfl (.tmp 56) rfl strcG ⟨bg, og, none⟩ rfl [.int .i64 2, .int .i64 4] rfl (cells_range rg) ?_
          | refine wpList_loadS rfl (.tmp 3) rfl strcV ⟨g3, 0, none⟩ rfl cs7 hvl (box_all B9) ?_)
        have hwh := VWhole_any HV.out
        have hde : decide ((exV (numL 1 2 ++ (numL 5 3 ++ numL 8 2)) [(2, 4)]).gaps = []) = false := by decide +kernel
        rw [hde] at hwh
        refine hwh.mono ?_
        rintro x w11 ⟨rfl, hb11⟩
        clear hwh r3 rg
        go_wp2_with fail
        go_meet
        exact ⟨rfl, hb9.trans (hb11.mono hb9.size)⟩
      case rest =>
        obtain ⟨rfl, hb11⟩ := hcut
        have X12 := X10.ext hb11
        have hb12 := hb10.trans (hb11.mono hb10.size)
        clear X10 hb11 hb10 hg3
        go_upto_region 6 with fail
        go_cut [6] (fun t wx => t = .int .i64 0 ∧ VBox wx g3 (exV (numL 1 9) []) ∧ Below w.heap.size w wx)
        case first =>
          have hbx : Below wc.heap.size wc wc.drew := ext_drew (ext_refl wc)
          have X13 := X12.ext hbx
          have hb13 := hb12.trans (hbx.mono hb12.size)
          obtain ⟨wd, hWD⟩ : ∃ wd, wd = wc.drew := ⟨_, rfl⟩
          rw [← hWD] at X13 hb13
          obtain ⟨cs9, hB9, hv9⟩ := X13
          refine wp_region_phase (fun w' => CellsAt w' ⟨g3, 0, none⟩ cs9) [6] (by kernel_rfl) ?_
          rw [show { wc with drawn := wc.drawn + 1 } = wd from hWD.symm]
          clear hWD hbx X12 hb12
          refine wpAnyP_take (i := 0) rfl (by kernel_rfl) (by kernel_rfl) (by kernel_rfl) (by kernel_rfl) (fun _ _ _ h => h) (yieldsIf_loadS rfl (.tmp 3) rfl strcV ⟨g3, 0, none⟩ rfl cs9 hv9.length (fun w' hT => hT)) (box_all hB9) ?_
          go_simp
          have hin9 : (exV (numL 1 2 ++ (numL 5 3 ++ numL 8 2)) [(2, 4)]).inside := by decide +kernel
          have hfi : fillE (exV (numL 1 2 ++ (numL 5 3 ++ numL 8 2)) [(2, 4)]) 0 = 0 := by decide +kernel
          have hgd := (Array.getElem?_eq_some_iff.1 hB9).1
          refine wpAnyP_oneQ (i := 1) (by kernel_rfl) rfl ?_
          go_wp2_with fail
          refine (numbered_any (n := 3) (by decide) (by decide) (by decide) (by decide)).mono ?_
          rintro x w14 ⟨q14, rfl, ho14, hx14⟩
          obtain ⟨A14, c14, _, rfl, _⟩ := ho14.evs.form
          have v14 := hv9.ext hx14
          have hb14 := hb13.trans (hx14.mono hb13.size)
          have B14 := box_below hB9 hx14
          have hg14 := Nat.lt_of_lt_of_le hgd hx14.size
          have o14 := ho14.evs
          clear ho14 hx14 hB9 hv9 hb13 hgd
          go_wp2_with fail
          refine nextQ (box_all B14) ?_
          go_simp
          refine wpAnyP_oneQ (i := 2) (by kernel_rfl) rfl ?_
          go_wp2_with fail
          refine (Fill_any v14 (o14.weak (S' := (· ≠ g3)) fun _ h _ => h.elim) (by decide) hin9).mono ?_
          intro x w15 hx15
          obtain ⟨f15, rfl, v15, hy15⟩ := hx15.off hg14 (fun b hb => hb)
          rw [ex4] at v15
          have hb15 := hb14.trans (hy15.mono hb14.size)
          have B15 := box_below B14 hy15
          have X15 : VBox w15 g3 _ := ⟨cs9, B15, v14.ext hy15⟩
          have hcl := v14.length
          clear v14 B14 hg14 hb14 hy15 hx15
          go_wp2_with fail
          refine nextQ (box_all B15) ?_
          go_simp
          refine wpAnyP_oneQ (i := 3) (by kernel_rfl) rfl ?_
          go_wp2_with fail
          refine nextQ (box_all B15) ?_
          go_simp
          refine wpAnyP_take (i := 4) rfl (by kernel_rfl) (by kernel_rfl) (by kernel_rfl) (by kernel_rfl) (fun _ _ _ h => h) (yieldsIf_run (.agg f15.toArray) rfl (fun w' => by go_simp)) (box_all B15) ?_
          go_simp
          refine wpAnyP_twoQ (i := 5) (j := 6) (by kernel_rfl) rfl rfl ?_ ?_
          · go_wp2_with fail
            refine nextQ (box_all B15) ?_
            go_simp
            refine wpAnyP_oneQ (i := 6) (by kernel_rfl) rfl ?_
            refine wpList_storeB rfl (.tmp 3) (.tmp 70) rfl rfl strcV g3 0 rfl f15 rfl v15.length v15.one cs9 25 B15 (by rw [hcl]; decide) ?_
            intro w16 hB16 hg16 hz16
            rw [patch_all _ _ (by rw [v15.length, hcl])] at hB16
            have X16 := X15.store v15 hg16 hB16
            have hb16 : Below w.heap.size w w16 := hb15.grown hg16 hb15.size (fun q hq => by injection hq with hq; omega)
            refine nextQ_bad (by kernel_rfl) ?_
            go_simp
            refine wpAnyP_oneQ (i := 7) (by kernel_rfl) rfl ?_
            go_wp2_with fail
            refine nextQ_bad (by kernel_rfl) ?_
            go_simp
            refine wpAnyP_done (by kernel_rfl) ?_
            go_simp
            try go_wp2_with fail
            go_meet
            exact ⟨rfl, X16, hb16⟩
          · refine wpList_storeB rfl (.tmp 3) (.tmp 70) rfl rfl strcV g3 0 rfl f15 rfl v15.length v15.one cs9 25 B15 (by rw [hcl]; decide) ?_
            intro w16 hB16 hg16 hz16
            rw [patch_all _ _ (by rw [v15.length, hcl])] at hB16
            have X16 := X15.store v15 hg16 hB16
            have hb16 : Below w.heap.size w w16 := hb15.grown hg16 hb15.size (fun q hq => by injection hq with hq; omega)
            refine nextQ_bad (by kernel_rfl) ?_
            go_simp
            refine wpAnyP_oneQ (i := 5) (by kernel_rfl) rfl ?_
            go_wp2_with fail
            refine nextQ_bad (by kernel_rfl) ?_
            go_simp
            refine wpAnyP_oneQ (i := 7) (by kernel_rfl) rfl ?_
            go_wp2_with fail
            refine nextQ_bad (by kernel_rfl) ?_
            go_simp
            refine wpAnyP_done (by kernel_rfl) ?_
            go_simp
            try go_wp2_with fail
            go_meet
            exact ⟨rfl, X16, hb16⟩
        case rest =>
          clear X12 hb12
          obtain ⟨rfl, X12, hb12⟩ := hcut
          go_upto_region 7 with fail
          go_cut [7] (fun t wx => t = .bool true ∧ Below wc.heap.size wc wx)
          case first =>
            obtain ⟨cs7, hB7, hv7⟩ := X12
            go_wp2_with (refine wpList_loadS rfl (.tmp 3) rfl strcV ⟨g3, 0, none⟩ rfl cs7 hv7.length (box_all hB7) ?_)
            refine (VIds_any hv7 (by decide)).mono ?_
            rintro x w8 ⟨v8, rfl, ho8, hb8⟩
            have ho8' : w8.ownsRow wc.heap.size 3 1 v8 9 (ivs [1, 2, 3, 4, 5, 6, 7, 8, 9]) := by have h := ho8; rw [show ids (exV (numL 1 9) []).events = [1, 2, 3, 4, 5, 6, 7, 8, 9] from ex8.2.2] at h; exact h
            obtain ⟨A8, c8, rfl, _⟩ := own_form ho8'
            have hr8 := Row.own ho8'
            clear ho8 ho8'
            go_wp2_with fail
            have hx9 : Below w8.heap.size w8 (w8.alloc (.cells #[.int .i64 1, .int .i64 2, .int .i64 3, .int .i64 4, .int .i64 5, .int .i64 6, .int .i64 7, .int .i64 8, .int .i64 9] 3)) := ext_alloc (ext_refl _) _
            have hr9 := row_lit w8 (ivs [1, 2, 3, 4, 5, 6, 7, 8, 9]) #[.int .i64 1, .int .i64 2, .int .i64 3, .int .i64 4, .int .i64 5, .int .i64 6, .int .i64 7, .int .i64 8, .int .i64 9] 3 rfl rfl
            refine (R1Same_any (l := [1, 2, 3, 4, 5, 6, 7, 8, 9]) (m := [1, 2, 3, 4, 5, 6, 7, 8, 9]) (hr8.ext hx9) hr9 (by decide) (by decide)).mono ?_
            rintro x w9 ⟨rfl, nq, rfl⟩
            have hb9 := hb8.trans ((below_drewN hx9 nq).mono hb8.size)
            have B9 := box_below hB7 hb9
            have HV := hide (hv7.ext hb9)
            have hvl := hv7.length
            clear hr8 hr9 hx9 hB7 hb8 hv7
            generalize hW9 : (w8.alloc (.cells #[.int .i64 1, .int .i64 2, .int .i64 3, .int .i64 4, .int .i64 5, .int .i64 6, .int .i64 7, .int .i64 8, .int .i64 9] 3)).drewN nq = w10 at *
            clear hW9
            go_wp2_with (refine wpList_loadS rfl (.tmp 3) rfl strcV ⟨g3, 0, none⟩ rfl cs7 hvl (box_all B9) ?_)
            have hwh := VWhole_any HV.out
            have hde : decide ((exV (numL 1 9) []).gaps = []) = true := by decide +kernel
            rw [hde] at hwh
            refine hwh.mono ?_
            rintro x w11 ⟨rfl, hb11⟩
            clear hwh
            go_wp2_with fail
            go_meet
            exact ⟨rfl, hb9.trans (hb11.mono hb9.size)⟩
          case rest =>
            obtain ⟨rfl, hb13⟩ := hcut
            have hb14 := hb12.trans (hb13.mono hb12.size)
            obtain ⟨cs7, hB7, hv7⟩ := X12.ext hb13
            clear X12 hb12 hb13
            have hin9 : (exV (numL 1 9) []).inside := by decide +kernel
            have hfi : fillE (exV (numL 1 9) []) 0 = 2 := by decide +kernel
            go_wp2_with (refine wpList_loadS rfl (.tmp 3) rfl strcV ⟨g3, 0, none⟩ rfl cs7 hv7.length (box_all hB7) ?_)
            have hfc := Fill_any (i := 0) (back := 0) (more := false) hv7 (EvsR.nil wc (· ≠ g3)) (by decide) hin9
            rw [hfi] at hfc
            refine hfc.mono ?_
            rintro x w15 ⟨f15, rfl, v15, hb15⟩
            have B15 := box_below hB7 hb15
            have u15 := hv7.ext hb15
            have hb16 := hb14.trans (hb15.mono hb14.size)
            clear hfc hB7 hv7 hb14 hb15
            go_upto_region 9 with (refine wpList_newS rfl rfl strcV rfl (.tmp 8) (.tmp 83) rfl rfl rfl f15.toArray rfl (by simpa using v15.length) (by simpa using v15.one) ?_)
            have hx17 : Below w15.heap.size w15 (w15.alloc (.cells f15.toArray 25)) := ext_alloc (ext_refl _) _
            have B17 := box_below B15 hx17
            have u17 := u15.ext hx17
            have hb17 := hb16.trans (hx17.mono hb16.size)
            clear B15 u15 hb16 hx17 v15
            generalize hW17 : w15.alloc (.cells f15.toArray 25) = w17 at *
            clear hW17
            go_wp2_with (refine wpList_loadS rfl (.tmp 3) rfl strcV ⟨g3, 0, none⟩ rfl cs7 u17.length (box_all B17) ?_)
            refine (Redacted_any u17 (by decide) (exV_fit (numL_fit 1 9))).mono ?_
            rintro x w18 ⟨f18, rfl, v18, hb18⟩
            have B18 := box_below B17 hb18
            have u18 := u17.ext hb18
            have hb19 := hb17.trans (hb18.mono hb17.size)
            have hl18 := v18.length; have ho18 := v18.one
            have E18 := VBox.new v18
            have hx20 : Below w18.heap.size w18 (w18.alloc (.cells f18.toArray 25)) := ext_alloc (ext_refl _) _
            have B20 := box_below B18 hx20
            have u20 := u18.ext hx20
            have hb20 := hb19.trans (hx20.mono hb19.size)
            clear B17 u17 hb17 B18 u18 hb18 hb19 v18 hx20
            go_upto_region 10 with (refine wpList_newS rfl rfl strcV rfl (.tmp 10) (.tmp 86) rfl rfl rfl f18.toArray rfl (by simpa using hl18) (by simpa using ho18) ?_)
            generalize hW20 : w18.alloc (.cells f18.toArray 25) = w20 at *
            generalize hG20 : w18.heap.size = g10 at *
            clear hW20 hG20 hl18 ho18
            have hlen5 : (redactV (exV (numL 1 9) []) 5).events.length = 9 := ex5.1
            obtain ⟨cs10, hB10, hv10⟩ := E18
            obtain ⟨Ae, ce, Ag, cg, As, cs', hcs, he10, _, _⟩ := hv10.form
            rw [hlen5] at hcs
            have s2 : cs10[2]? = some (.slice Ae 9 ce) := by rw [hcs]; rfl
            have r2 := box_at hB10 s2
            obtain ⟨Aq, cq, css, hq, _, _, _, hre, hte⟩ := he10.form
            injection hq with e1 _ e3
            subst e1 e3
            obtain ⟨b, o, ck4, hA4, _, he4, _, hc4⟩ := evs_at hre hte 4 (by rw [hlen5]; decide)
            obtain ⟨b', o', ck3, hA3, _, he3, _, hc3⟩ := evs_at hre hte 3 (by rw [hlen5]; decide)
            subst hA4
            simp only [Option.some.injEq, Addr.mk.injEq, and_true] at hA3
            obtain ⟨rfl, rfl⟩ := hA3
            have t4 := hc4 10 _ he4.some10
            have t3 := hc3 10 _ he3.some10
            have x4 := ex5.2.1
            have x3 := ex5.2.2
            rw [List.getElem?_eq_getElem (by rw [hlen5]; decide)] at x4 x3
            replace x4 := Option.some.inj x4
            replace x3 := Option.some.inj x3
            dsimp only at x4 x3
            rw [x4, show o + 4 * 29 + 10 = o + 126 by omega] at t4
            rw [x3, show o + 3 * 29 + 10 = o + 97 by omega] at t3
            have hck := Check_any u20 (numL_i64 1 9 (by decide) (by decide)) (by decide)
            rw [ex6] at hck
            have HCK := hide hck
            have hvl := u20.length
            have hbw := hb20.size
            clear hB10 hv10 hcs he10 hre hte hc4 hc3 he4 he3 x4 x3 hlen5 u20 hck s2
            go_wp2_with (refine wpList_loadS rfl (.tmp 3) rfl strcV ⟨g3, 0, none⟩ rfl cs7 hvl (box_all B20) ?_)
            refine HCK.out.mono ?_
            rintro x w21 ⟨rfl, hb21⟩
            clear r2 t4 t3 B20 HCK
            go_wp2_with fail
            refine (numbered_any (n := 1) (by decide) (by decide) (by decide) (by decide)).mono ?_
            rintro x w22 ⟨v22, rfl, ho22, hb22⟩
            obtain ⟨A22, c22, _, rfl, _⟩ := ho22.evs.form
            have hx23 : Below w22.heap.size w22 (w22.alloc (.cells #[.int .i64 1, .int .i64 0] 55)) := ext_alloc (ext_refl _) _
            have hr23 := row_lit w22 (kcs [(1, 0)]) #[.int .i64 1, .int .i64 0] 55 rfl rfl
            have hv23 : VwR (w22.alloc (.cells #[.int .i64 1, .int .i64 0] 55)) Any (vwCells { zeroVw with events := numL 1 1, gaps := [(1, 0)] } (.slice A22 (numL 1 1).length c22) (.slice (some ⟨w22.heap.size, 0, none⟩) 1 1) (.slice none 0 0)) { zeroVw with events := numL 1 1, gaps := [(1, 0)] } :=
              ⟨_, _, _, rfl, (ho22.evs.weak fun _ h _ => h.elim).ext hx23, ⟨_, _, rfl, rfl, Nat.le_refl _, by unfold maxLen; decide, (fun h => by cases h), hr23, fun _ _ _ => trivial⟩, EvsR.nil _ _⟩
            have hb24 := hb20.trans (hb21.mono hb20.size)
            have hb25 := hb24.trans (hb22.mono hb24.size)
            have hb26 := hb25.trans (hx23.mono hb25.size)
            have hck := Check_any hv23 (numL_i64 1 1 (by decide) (by decide)) (by decide)
            rw [ex7] at hck
            have HCK := hide hck
            clear hck hv23 hr23 hx23 ho22 hb20 hb21 hb22 hb24 hb25
            go_wp2_with (refine wpList_buildS (te := 0) rfl (.tmp 137) rfl Try.underlying23 strcG (by decide) (by decide) #[.int .i64 1, .int .i64 0] rfl rfl ?_)
            refine HCK.out.mono ?_
            rintro x w27 ⟨rfl, hb27⟩
            go_wp2_with fail
            go_ret
            exact ⟨rfl, hb26.trans (hb27.mono hb26.size)⟩
end Go.Proofs.Ytbehflldghhopaa

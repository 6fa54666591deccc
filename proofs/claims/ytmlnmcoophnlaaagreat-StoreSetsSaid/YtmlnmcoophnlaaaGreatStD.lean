/-
  Sets of events: Same, of the code and of the reference.
  Sets of events: Check, of the code and of the reference.
-/
import Derived.Test.YtmlnmcoophnlaaaGreatLives
import Derived.Test.YtmlnmcoophnlaaaGreatSames6
import Derived.Test.YtmlnmcoophnlaaaGreatStB
import Derived.BigQuiet
import Derived.Test.YtmlnmcoophnlaaaGreatStA
import Derived.Test.YtmlnmcoophnlaaaGreatREvVer
set_option linter.unusedVariables false
set_option linter.unusedSimpArgs false
namespace Go.Proofs.YtmlnmcoophnlaaaGreat
section
open Go.RowKit
attribute [local go_sem] Addr.add_mid
set_option maxRecDepth 100000 in
set_option maxHeartbeats 4000000 in
theorem R8Same_any {S S2 : Nat → Prop} {v v2 : Value} {l m : List Ev} {w : World} (hr : EvsR w S v l) (hr2 : EvsR w S2 v2 m) (hl : l.length ≤ 1000000) (hm : m.length ≤ 1000000) (ha : ∀ e ∈ l, e.fit) (hb : ∀ e ∈ m, e.fit) :
    Calls Tryz.prog 20 #[v, v2] w (Says (decide (l = m)) w) := by
  obtain ⟨A, c, css, rfl, _, _, _, hr, ht⟩ := hr.form
  obtain ⟨A2, c2, css2, rfl, _, _, _, hr2, ht2⟩ := hr2.form
  by_cases hlm : l.length = m.length
  · have hx : ((l.length : Int) != (m.length : Int)) = false := by rw [hlm]; simp
    have HLM := hide hlm
    go_enter Tryz.func20, Tryz.ntmps20
    clear hlm
    go_wp2_with fail
    clear hx
    go_loopw [5] (fun i wr => ∃ k : Nat, k ≤ l.length ∧ i = .int .i64 (k : Int) ∧ l.take k = m.take k ∧ Below w.heap.size w wr) (fun i _ => l.length - (intOf i).toNat)
    case atStart => exact ⟨0, Nat.zero_le _, rfl, rfl, ext_refl w⟩
    case round =>
      obtain ⟨k, hk, rfl, hte, hnx⟩ := hrel
      have HT := hide hte; clear hte
      by_cases hlt : k < l.length
      · have hlt2 : k < m.length := by rw [← HLM.out]; exact hlt
        obtain ⟨b1, o1, cs1, rfl, hb1, he1, _, hc1⟩ := evs_at (hr.ext hnx) (ht.imp fun _ _ h => h.ext hnx) k hlt
        obtain ⟨b2, o2, cs2, rfl, hb2, he2, _, hc2⟩ := evs_at (hr2.ext hnx) (ht2.imp fun _ _ h => h.ext hnx) k hlt2
        have i0 : (0 : Int) ≤ (k : Int) := by omega
        have i1 : (k : Int) < (l.length : Int) := by omega
        have i2 : (k : Int) < (m.length : Int) := by omega
        have HE := hide (fun h : l[k] = m[k] => take_eq_step HT.out hlt hlt2 h)
        have HN := hide (fun h : l[k] ≠ m[k] => ne_of_get hlt hlt2 h)
        have hn1 := he1.length
        have hn2 := he2.length
        have HC := hide (fun n : Nat => R7Same_any (w := wr.drewN n) (he1.ext (below_drewN (ext_refl _) n)) (he2.ext (below_drewN (ext_refl _) n)) (ha _ (List.getElem_mem hlt)) (hb _ (List.getElem_mem hlt2)))
        have r1 : wr.rangeAt b1 (o1 + k * 29) cs1 := hc1
        have r2 : wr.rangeAt b2 (o2 + k * 29) cs2 := hc2
        clear hc1 hc2 he1 he2 hr hr2 ht ht2
        go_wp2_with fail
        refine wp_region_still_tail 8 (by kernel_rfl) (by kernel_rfl) ?_
        simp only [List.take_succ_cons, List.take_zero, List.drop_succ_cons, List.drop_zero]
        iterate 3 still_step
        refine still_loadS rfl (.tmp 19) rfl strcE ⟨b1, o1 + k * 29, none⟩ rfl cs1 hn1 (cells_range r1) ?_
        iterate 3 still_step
        refine still_loadS rfl (.tmp 23) rfl strcE ⟨b2, o2 + k * 29, none⟩ rfl cs2 hn2 (cells_range r2) ?_
        refine wpStill_nil ?_
        go_wp2_with fail
        refine (HC.out 1).mono ?_
        rintro e W3 ⟨rfl, hW3⟩
        have hnx' : Below w.heap.size w W3 := hnx.trans ((below_drewN (ext_refl wr) 1).trans (hW3.mono (by simp)) |>.mono hnx.size)
        clear HC r1 r2 hW3
        by_cases he : l[k] = m[k]
        · have HE' := hide (HE.out he)
          have hd : decide (l[k] = m[k]) = true := decide_eq_true he
          clear he HE HN
          go_wp2_with fail
          go_roundw
          case rel => exact ⟨k + 1, by omega, by go_num, HE'.out, hnx'⟩
          case measure => simp [intOf]; omega
        · have HN' := hide (HN.out he)
          have hd : decide (l[k] = m[k]) = false := decide_eq_false he
          clear he HE HN
          go_wp2_with fail
          go_ret
          exact ⟨by rw [decide_eq_false HN'.out]; rfl, hnx'⟩
      · obtain rfl : k = l.length := by omega
        have HF := hide (take_eq_fin HT.out HLM.out)
        go_wp2_with fail
        go_ret
        exact ⟨by rw [decide_eq_true HF.out]; rfl, hnx⟩
  · have hx : ((l.length : Int) != (m.length : Int)) = true := by simp; omega
    have HN := hide (fun h : l = m => hlm (by rw [h]))
    clear hlm
    go_enter Tryz.func20, Tryz.ntmps20
    go_wp2_with fail
    go_ret
    exact ⟨by rw [decide_eq_false HN.out]; rfl, ext_refl w⟩
set_option maxRecDepth 100000 in
set_option maxHeartbeats 4000000 in
theorem SEqual_any {S S2 : Nat → Prop} {v v2 : Value} {l m : List Ev} {w : World} (hr : EvsR w S v l) (hr2 : EvsR w S2 v2 m) (hl : l.length ≤ 1000000) (hm : m.length ≤ 1000000) (ha : ∀ e ∈ l, e.fit) (hb : ∀ e ∈ m, e.fit) :
    Calls Tryz.prog 38 #[v, v2, .func (Fn.func 39) #[] #[]] w (Says (decide (l = m)) w) := by
  obtain ⟨A, c, css, rfl, _, _, _, hr, ht⟩ := hr.form
  obtain ⟨A2, c2, css2, rfl, _, _, _, hr2, ht2⟩ := hr2.form
  by_cases hlm : l.length = m.length
  · have hx : ((l.length : Int) != (m.length : Int)) = false := by rw [hlm]; simp
    have HLM := hide hlm
    go_enter Tryz.func38, Tryz.ntmps38
    clear hlm
    go_wp2_with fail
    clear hx
    go_loopw [17] (fun i wr => ∃ k : Nat, k ≤ l.length ∧ i = .int .i64 (k : Int) ∧ l.take k = m.take k ∧ Below w.heap.size w wr) (fun i _ => l.length - (intOf i).toNat)
    case atStart => exact ⟨0, Nat.zero_le _, rfl, rfl, ext_refl w⟩
    case round =>
      obtain ⟨k, hk, rfl, hte, hnx⟩ := hrel
      have HT := hide hte; clear hte
      by_cases hlt : k < l.length
      · have hlt2 : k < m.length := by rw [← HLM.out]; exact hlt
        obtain ⟨b1, o1, cs1, rfl, hb1, he1, _, hc1⟩ := evs_at (hr.ext hnx) (ht.imp fun _ _ h => h.ext hnx) k hlt
        obtain ⟨b2, o2, cs2, rfl, hb2, he2, _, hc2⟩ := evs_at (hr2.ext hnx) (ht2.imp fun _ _ h => h.ext hnx) k hlt2
        have HE := hide (fun h : l[k] = m[k] => take_eq_step HT.out hlt hlt2 h)
        have HN := hide (fun h : l[k] ≠ m[k] => ne_of_get hlt hlt2 h)
        have i2 : (k : Int) < (m.length : Int) := by omega
        have hn1 := he1.length
        have hn2 := he2.length
        have HL1 := hide hn1; have HL2 := hide hn2; have HO1 := hide he1.one; have HO2 := hide he2.one
        have kx := ext_alloc (ext_refl wr) (.cells evZero 35)
        have BX := heap_alloc_new wr (.cells evZero 35)
        have HR1 := hide ((he1.old (Nat.le_refl _)).ext kx)
        have HR2 := hide ((he2.old (Nat.le_refl _)).ext kx)
        have HC1 := hide hc1
        have HC2 := hide (range_below hc2 kx)
        have HF1 := hide (ha _ (List.getElem_mem hlt)); have HF2 := hide (hb _ (List.getElem_mem hlt2))
        obtain ⟨x1, hx1⟩ : ∃ x, x = l[k] := ⟨_, rfl⟩
        obtain ⟨x2, hx2⟩ : ∃ x, x = m[k] := ⟨_, rfl⟩
        rw [← hx1, ← hx2] at HE HN
        rw [← hx1] at HR1 HF1
        rw [← hx2] at HR2 HF2
        clear hc1 hc2 he1 he2 hr hr2 ht ht2 hn1 hn2 hx1 hx2
        go_wp2_with (first
          | refine wpList_loadS rfl (.tmp 20) rfl strcE ⟨b1, o1 + k * 29, none⟩ rfl cs1 HL1.out (cells_range HC1.out) ?_
          | refine wpList_zeroS rfl rfl strcE ?_
          | refine wpList_storeB rfl (.tmp 8) (.tmp 21) rfl rfl strcE wr.heap.size 0 rfl cs1 rfl HL1.out HO1.out evZero.toList 35 BX (by decide) ?_)
        intro wa Ba ga za
        rw [patch_all _ _ (by rw [HL1.out]; rfl)] at Ba
        have ka := kx.grown ga kx.size (fun q hq => by injection hq with hq; omega)
        have HR1 := hide (HR1.out.grown ga (fun q hq e => by injection e with e; omega))
        have HR2 := hide (HR2.out.grown ga (fun q hq e => by injection e with e; omega))
        have HC2 : Hid (wa.rangeAt b2 (o2 + k * 29) cs2) := fun j u hu => by
          have h := HC2.out j u hu
          rw [← h]
          exact World.cell?_of_block (ga.block _ (by have := kx.size; show b2 < _; omega) (fun e => by injection e with e; simp at e; omega))
        have hnx1 := ext_trans hnx ka
        have ky := ext_alloc (ext_refl wa) (.cells cs2.toArray 35)
        have HR1 := hide (HR1.out.ext ky)
        have HR2 := hide (HR2.out.ext ky)
        have HB1 := hide (box_below Ba ky)
        have HB2 := hide (heap_alloc_new wa (.cells cs2.toArray 35))
        have hnx2 := ext_trans hnx1 ky
        clear HC1 ga za BX Ba
        generalize wr.heap.size = g1 at HB1 ⊢
        go_upto_region 7 with (first
          | refine wpList_loadS rfl (.tmp 24) rfl strcE ⟨b2, o2 + k * 29, none⟩ rfl cs2 HL2.out (cells_range HC2.out) ?_
          | refine wpList_newS rfl rfl strcE rfl (.tmp 9) (.tmp 25) rfl rfl rfl cs2.toArray rfl (by simpa using HL2.out) (by simpa using HO2.out) ?_)
        generalize wa.alloc (.cells cs2.toArray 35) = w2 at ky HR1 HR2 HB1 HB2 hnx2 ⊢
        generalize wa.heap.size = g2 at HB2 ⊢
        clear ky hnx1 HC2 ka kx hnx
        go_wp2_with (first
          | refine wpList_loadS rfl (.tmp 8) rfl strcE ⟨g1, 0, none⟩ rfl cs1 HL1.out (box_all HB1.out) ?_
          | refine wpList_loadS rfl (.tmp 9) rfl strcE ⟨g2, 0, none⟩ rfl cs2 HL2.out (box_all HB2.out) ?_)
        refine (ESame_any HR1.out HR2.out HF1.out HF2.out).mono ?_
        rintro e w3 ⟨rfl, hb3⟩
        have hnx3 := ext_trans hnx2 hb3
        clear HR1 HR2 HB1 HB2 hb3 hnx2
        by_cases he : x1 = x2
        · have HE' := hide (HE.out he)
          have hd : decide (x1 = x2) = true := decide_eq_true he
          clear he HE HN
          go_wp2_with fail
          go_roundw
          case rel => exact ⟨k + 1, by omega, by go_num, HE'.out, hnx3⟩
          case measure => (simp [intOf]; try omega)
        · have HN' := hide (HN.out he)
          have hd : decide (x1 = x2) = false := decide_eq_false he
          clear he HE HN
          go_wp2_with fail
          go_ret
          exact ⟨by rw [decide_eq_false HN'.out]; rfl, hnx3⟩
      · obtain rfl : k = l.length := by omega
        have HF := hide (take_eq_fin HT.out HLM.out)
        go_wp2_with fail
        go_ret
        exact ⟨by rw [decide_eq_true HF.out]; rfl, hnx⟩
  · have hx : ((l.length : Int) != (m.length : Int)) = true := by simp; omega
    have HN := hide (fun h : l = m => hlm (by rw [h]))
    clear hlm
    go_enter Tryz.func38, Tryz.ntmps38
    go_wp2_with fail
    go_ret
    exact ⟨by rw [decide_eq_false HN.out]; rfl, ext_refl w⟩
set_option maxRecDepth 100000 in
set_option maxHeartbeats 4000000 in
theorem SSame_any {S S2 : Nat → Prop} {v v2 : Value} {l m : List Ev} {w : World} (hr : EvsR w S v l) (hr2 : EvsR w S2 v2 m) (hl : l.length ≤ 1000000) (hm : m.length ≤ 1000000) (ha : ∀ e ∈ l, e.fit) (hb : ∀ e ∈ m, e.fit) :
    Calls Tryz.prog 14 #[v, v2] w (Says (decide (l = m)) w) := by
  have CS := SEqual_any hr hr2 hl hm ha hb
  obtain ⟨A, c, css, rfl, _, _, _, hr, ht⟩ := hr.form
  obtain ⟨A2, c2, css2, rfl, _, _, _, hr2, ht2⟩ := hr2.form
  clear hr ht hr2 ht2
  go_enter Tryz.func14, Tryz.ntmps14
  go_wp2_with (go_at_call 38; refine CS.mono ?_; rintro e w1 ⟨rfl, hb1⟩)
  go_ret
  exact ⟨rfl, hb1⟩
end

section
open Go.RowKit
attribute [local go_sem] Addr.add_mid
def Mix8 (l : List Ev) (k : Nat) : Prop := ∀ h0 : 0 < l.length, ∀ e ∈ l.take k, e.room = l[0].room
theorem Mix8.step {l : List Ev} {k : Nat} (h : Mix8 l k) (hk : k < l.length) (hq : l[k].room = (l[0]'(by omega)).room) : Mix8 l (k + 1) := fun h0 => by
  rw [List.take_succ_eq_append_getElem hk]
  intro e he
  rcases List.mem_append.1 he with he | he
  · exact h h0 e he
  · simp only [List.mem_cons, List.not_mem_nil, or_false] at he; rw [he]; exact hq
theorem Mix8.one (l : List Ev) : Mix8 l 1 := fun h0 e he => by
  cases l with
  | nil => simp at h0
  | cons x l => simp at he; rw [he]; rfl
theorem Mix8.fin {l : List Ev} {k : Nat} (h : Mix8 l k) (hk : l.length ≤ k) : mixB l = false := mixB_none fun h0 e he => h h0 e (by rwa [List.take_of_length_le hk])
def Up8 (l : List Ev) (k : Nat) : Prop := ∀ i, (h : i + 1 < l.length) → i + 1 < k → l[i].id < l[i + 1].id
theorem Up8.one (l : List Ev) : Up8 l 1 := fun i _ h => by omega
theorem Up8.step {l : List Ev} {k : Nat} (h : Up8 l (k + 1)) (hk : k + 1 < l.length) (hq : l[k].id < l[k + 1].id) : Up8 l (k + 2) := fun i hi hlt => by
  by_cases e : i = k
  · subst e; exact hq
  · exact h i hi (by omega)
theorem Up8.fin {l : List Ev} {k : Nat} (h : Up8 l k) (hk : l.length ≤ k) : ∀ i, (h : i + 1 < l.length) → l[i].id < l[i + 1].id := fun i hi => h i hi (by omega)
set_option maxRecDepth 100000 in
set_option maxHeartbeats 4000000 in
theorem SCheck_any {S : Nat → Prop} {v : Value} {l : List Ev} {w : World} (hr : EvsR w S v l) (hl : l.length ≤ 2000) (hg : ∀ e ∈ l, e.good) :
    Calls Tryz.prog 23 #[v] w (Errs (checkL l) w) := by
  obtain ⟨A, c, css, rfl, h1, h2, _, hrow, ht⟩ := hr.form
  have HG := hide hg
  have hll : decide ((2000 : Int) < (l.length : Int)) = false := decide_eq_false (by omega)
  clear hr hg
  go_enter Tryz.func23, Tryz.ntmps23
  go_wp2_with fail
  clear hll
  go_loopw [14] (fun i wr => ∃ k : Nat, k ≤ l.length ∧ i = .int .i64 (k : Int) ∧ Hid (∀ e ∈ l.take k, verE e = 0) ∧ Below w.heap.size w wr) (fun i _ => l.length - (intOf i).toNat)
  case atStart => exact ⟨0, Nat.zero_le _, rfl, by simp [Hid], ext_refl _⟩
  case round =>
  obtain ⟨k, hk, rfl, HT, hnx⟩ := hrel
  by_cases hlt : k < l.length
  · obtain ⟨b1, o1, cs1, rfl, hb1, he1, _, hc1⟩ := evs_at (hrow.ext hnx) (ht.imp fun _ _ h => h.ext hnx) k hlt
    have HC := hide hc1
    have HL := hide he1.length; have HO := hide he1.one
    have HY := hide (fun h : verE l[k] = 0 => ver_step HT.out hlt h)
    have HN := hide (fun h : verE l[k] ≠ 0 => check_ver HT.out hlt h)
    have hgx := HG.out _ (List.getElem_mem hlt)
    obtain ⟨x, hx⟩ : ∃ x, x = l[k] := ⟨_, rfl⟩
    rw [← hx] at he1 HY HN hgx
    have kx := ext_alloc (ext_refl wr) (.cells cs1.toArray 35)
    have BX := hide (heap_alloc_new wr (.cells cs1.toArray 35))
    have CV := Verify_any (he1.ext kx) hgx
    have hnx2 := ext_trans hnx kx
    clear hc1 he1 hgx hx
    go_upto_region 6 with (first
      | refine wpList_loadS rfl (.tmp 16) rfl strcE ⟨b1, o1 + k * 29, none⟩ rfl cs1 HL.out (cells_range HC.out) ?_
      | refine wpList_newS rfl rfl strcE rfl (.tmp 4) (.tmp 17) rfl rfl rfl cs1.toArray rfl (by simpa using HL.out) (by simpa using HO.out) ?_)
    generalize wr.alloc (.cells cs1.toArray 35) = w2 at kx BX CV hnx2 ⊢
    generalize wr.heap.size = g1 at BX ⊢
    clear kx
    obtain ⟨y, hy⟩ : ∃ y, y = verE x := ⟨_, rfl⟩
    rw [← hy] at CV HY HN
    clear hy
    by_cases hq : y = 0
    · have hq1 : (y != 0) = false := by simpa using hq
      have HS := hide (HY.out hq)
      clear hq HY HN
      go_wp2_with (first
        | refine wpList_loadS rfl (.tmp 4) rfl strcE ⟨g1, 0, none⟩ rfl cs1 HL.out (box_all BX.out) ?_
        | (go_at_call 43; refine CV.mono ?_; rintro e w3 ⟨rfl, hb3⟩; have hnx3 := ext_trans hnx2 hb3; clear CV hb3))
      go_roundw
      case rel => exact ⟨k + 1, by omega, by go_num, HS.out, hnx3⟩
      case measure => (simp [intOf]; try omega)
    · have hq1 : (y != 0) = true := by simpa using hq
      have HF := hide (HN.out hq)
      clear hq HY HN
      go_wp2_with (first
        | refine wpList_loadS rfl (.tmp 4) rfl strcE ⟨g1, 0, none⟩ rfl cs1 HL.out (box_all BX.out) ?_
        | (go_at_call 43; refine CV.mono ?_; rintro e w3 ⟨rfl, hb3⟩; have hnx3 := ext_trans hnx2 hb3; clear CV hb3))
      go_ret
      exact ⟨by rw [HF.out]; rfl, hnx3⟩
  · obtain rfl : k = l.length := by omega
    have HV := hide (verL_ok (show ∀ e ∈ l, verE e = 0 by have := HT.out; rwa [List.take_length] at this))
    clear HT
    go_wp2_with fail
    go_loopw [26] (fun i wr => ∃ k : Nat, k ≤ l.length ∧ i = .int .i64 (k : Int) ∧ Hid (Mix8 l k) ∧ Below w.heap.size w wr) (fun i _ => l.length - (intOf i).toNat)
    case atStart => exact ⟨0, Nat.zero_le _, rfl, fun h0 e he => by simp at he, hnx⟩
    case round =>
    clear hnx
    obtain ⟨k, hk, rfl, HM, hnx⟩ := hrel
    by_cases hlt : k < l.length
    · have h0 : 0 < l.length := by omega
      obtain ⟨b1, o1, cs1, rfl, hb1, he1, _, hc1⟩ := evs_at (hrow.ext hnx) (ht.imp fun _ _ h => h.ext hnx) k hlt
      obtain ⟨b0, o0, cs0, hA0, hb0, he0, _, hc0⟩ := evs_at (hrow.ext hnx) (ht.imp fun _ _ h => h.ext hnx) 0 h0
      injection hA0 with hA0
      injection hA0 with hA1 hA2
      subst hA1 hA2
      have z0 := hc0 1 _ he0.gets.2.1
      simp only [Nat.zero_mul, Nat.add_zero] at z0
      have HY := hide (fun h : l[k].room = l[0].room => HM.out.step hlt h)
      have HN := hide (fun h : l[k].room ≠ l[0].room => check_mix HV.out h0 hlt h)
      have hlt0 : (0 : Int) < (l.length : Int) := by omega
      have HC := hide hc1
      have HL := hide he1.length; have HO := hide he1.one
      have kx := ext_alloc (ext_refl wr) (.cells cs1.toArray 35)
      have BX := heap_alloc_new wr (.cells cs1.toArray 35)
      have z1 := box_at BX he1.gets.2.1
      have z0 := cell_alloc1 (o1 := .cells cs1.toArray 35) z0
      have hnx2 := ext_trans hnx kx
      obtain ⟨x, hx⟩ : ∃ x, x = l[k].room := ⟨_, rfl⟩
      obtain ⟨y, hy⟩ : ∃ y, y = l[0].room := ⟨_, rfl⟩
      rw [← hx] at z1 HY HN
      rw [← hy] at z0 HY HN
      clear hc1 he1 hc0 he0 hx hy BX
      go_upto_region 13 with (first
        | refine wpList_loadS rfl (.tmp 28) rfl strcE ⟨b1, o1 + k * 29, none⟩ rfl cs1 HL.out (cells_range HC.out) ?_
        | refine wpList_newS rfl rfl strcE rfl (.tmp 7) (.tmp 29) rfl rfl rfl cs1.toArray rfl (by simpa using HL.out) (by simpa using HO.out) ?_)
      generalize wr.alloc (.cells cs1.toArray 35) = w2 at kx z0 z1 hnx2 ⊢
      generalize wr.heap.size = g1 at kx z1 ⊢
      clear kx hnx HC
      by_cases hq : x = y
      · have t1 : (x.toList == y.toList) = true := str_yes hq
        have HS := hide (HY.out hq)
        clear hq HY HN
        go_wp2_with fail
        go_quiet (fail)
        have hnx3 := hnx2.trans ((below_drewN (ext_refl _) nq).mono hnx2.size)
        go_wp2_with fail
        go_roundw
        case rel => exact ⟨k + 1, by omega, by go_num, HS.out, hnx3⟩
        case measure => (simp [intOf]; try omega)
      · have t1 : (x.toList == y.toList) = false := str_ne hq
        have HF := hide (HN.out hq)
        clear hq HY HN
        go_wp2_with fail
        go_quiet (fail)
        have hnx3 := hnx2.trans ((below_drewN (ext_refl _) nq).mono hnx2.size)
        go_wp2_with fail
        go_ret
        exact ⟨by rw [HF.out]; rfl, hnx3⟩
    · have HM2 := hide (HM.out.fin (by omega))
      clear HM
      go_wp2_with fail
      go_loopw [8] (fun i wr => ∃ k : Nat, (k + 1 ≤ l.length ∨ k = 0) ∧ i = .int .i64 ((k : Int) + 1) ∧ Hid (Up8 l (k + 1)) ∧ Below w.heap.size w wr) (fun i _ => l.length - (intOf i).toNat)
      case atStart => exact ⟨0, .inr rfl, rfl, Up8.one l, hnx⟩
      case round =>
      clear hnx
      obtain ⟨k, hk3, rfl, HU, hnx⟩ := hrel
      by_cases hlt : k + 1 < l.length
      · obtain ⟨b1, o1, cs1, rfl, hb1, he1, _, hc1⟩ := evs_at (hrow.ext hnx) (ht.imp fun _ _ h => h.ext hnx) (k + 1) hlt
        obtain ⟨b0, o0, cs0, hA0, hb0, he0, _, hc0⟩ := evs_at (hrow.ext hnx) (ht.imp fun _ _ h => h.ext hnx) k (by omega)
        injection hA0 with hA0
        injection hA0 with hA1 hA2
        subst hA1 hA2
        have z0 := hc0 0 _ he0.gets.1
        have z1 := hc1 0 _ he1.gets.1
        simp only [Nat.add_zero] at z0 z1
        have HY := hide (fun h : l[k].id < l[k + 1].id => HU.out.step hlt h)
        have HN := hide (fun h : ¬ l[k].id < l[k + 1].id => check_down HV.out HM2.out hlt h)
        obtain ⟨x, hx⟩ : ∃ x, x = l[k].id := ⟨_, rfl⟩
        obtain ⟨y, hy⟩ : ∃ y, y = l[k + 1].id := ⟨_, rfl⟩
        rw [← hx] at z0 HY HN
        rw [← hy] at z1 HY HN
        clear hc1 he1 hc0 he0 hx hy
        by_cases hq : x < y
        · have t1 : decide (y ≤ x) = false := decide_eq_false (by omega)
          have HS := hide (HY.out hq)
          clear hq HY HN
          go_wp2_with fail
          go_quiet (fail)
          have hnx3 := hnx.trans ((below_drewN (ext_refl _) nq).mono hnx.size)
          go_wp2_with fail
          go_roundw
          case rel => exact ⟨k + 1, by omega, by go_num, HS.out, hnx3⟩
          case measure => (simp [intOf]; try omega)
        · have t1 : decide (y ≤ x) = true := decide_eq_true (by omega)
          have HF := hide (HN.out hq)
          clear hq HY HN
          go_wp2_with fail
          go_quiet (fail)
          have hnx3 := hnx.trans ((below_drewN (ext_refl _) nq).mono hnx.size)
          go_wp2_with fail
          go_ret
          exact ⟨by rw [HF.out]; rfl, hnx3⟩
      · have HF := hide (check_ok HV.out HM2.out (HU.out.fin (by omega)))
        go_wp2_with fail
        go_ret
        exact ⟨by rw [HF.out]; rfl, hnx⟩
set_option maxRecDepth 100000 in
set_option maxHeartbeats 4000000 in
theorem R8Check_any {S : Nat → Prop} {v : Value} {l : List Ev} {w : World} (hr : EvsR w S v l) (hl : l.length ≤ 2000) (hg : ∀ e ∈ l, e.good) :
    Calls Tryz.prog 24 #[v] w (Errs (checkL l) w) := by
  obtain ⟨A, c, css, rfl, h1, h2, _, hrow, ht⟩ := hr.form
  have HG := hide hg
  have hll : decide ((2000 : Int) < (l.length : Int)) = false := decide_eq_false (by omega)
  clear hr hg
  go_enter Tryz.func24, Tryz.ntmps24
  go_wp2_with fail
  clear hll
  go_loopw [3] (fun i wr => ∃ k : Nat, k ≤ l.length ∧ i = .int .i64 (k : Int) ∧ Hid (∀ e ∈ l.take k, verE e = 0) ∧ Below w.heap.size w wr) (fun i _ => l.length - (intOf i).toNat)
  case atStart => exact ⟨0, Nat.zero_le _, rfl, by simp [Hid], ext_refl _⟩
  case round =>
  obtain ⟨k, hk, rfl, HT, hnx⟩ := hrel
  by_cases hlt : k < l.length
  · obtain ⟨b1, o1, cs1, rfl, hb1, he1, _, hc1⟩ := evs_at (hrow.ext hnx) (ht.imp fun _ _ h => h.ext hnx) k hlt
    have HC := hide hc1
    have HL := hide he1.length; have HO := hide he1.one
    have HY := hide (fun h : verE l[k] = 0 => ver_step HT.out hlt h)
    have HN := hide (fun h : verE l[k] ≠ 0 => check_ver HT.out hlt h)
    have hgx := HG.out _ (List.getElem_mem hlt)
    obtain ⟨x, hx⟩ : ∃ x, x = l[k] := ⟨_, rfl⟩
    rw [← hx] at he1 HY HN hgx
    have CV := R7Verify_any he1 hgx
    clear hc1 he1 hgx hx
    obtain ⟨y, hy⟩ : ∃ y, y = verE x := ⟨_, rfl⟩
    rw [← hy] at CV HY HN
    clear hy
    by_cases hq : y = 0
    · have hq1 : (y != 0) = false := by simpa using hq
      have HS := hide (HY.out hq)
      clear hq HY HN
      go_wp2_with (first
        | refine wpList_loadS rfl (.tmp 18) rfl strcE ⟨b1, o1 + k * 29, none⟩ rfl cs1 HL.out (cells_range HC.out) ?_
        | (go_at_call 44; refine CV.mono ?_; rintro e w3 ⟨rfl, hb3⟩; have hnx3 := ext_trans hnx hb3; clear CV hb3))
      go_roundw
      case rel => exact ⟨k + 1, by omega, by go_num, HS.out, hnx3⟩
      case measure => (simp [intOf]; try omega)
    · have hq1 : (y != 0) = true := by simpa using hq
      have HF := hide (HN.out hq)
      clear hq HY HN
      go_wp2_with (first
        | refine wpList_loadS rfl (.tmp 18) rfl strcE ⟨b1, o1 + k * 29, none⟩ rfl cs1 HL.out (cells_range HC.out) ?_
        | (go_at_call 44; refine CV.mono ?_; rintro e w3 ⟨rfl, hb3⟩; have hnx3 := ext_trans hnx hb3; clear CV hb3))
      go_ret
      exact ⟨by rw [HF.out]; rfl, hnx3⟩
  · obtain rfl : k = l.length := by omega
    have HV := hide (verL_ok (show ∀ e ∈ l, verE e = 0 by have := HT.out; rwa [List.take_length] at this))
    clear HT
    go_wp2_with fail
    go_loopw [5] (fun i wr => ∃ k : Nat, 1 ≤ k ∧ (k ≤ l.length ∨ k = 1) ∧ i = .int .i64 (k : Int) ∧ Hid (Mix8 l k) ∧ Below w.heap.size w wr) (fun i _ => l.length - (intOf i).toNat)
    case atStart => exact ⟨1, Nat.le_refl _, .inr rfl, rfl, Mix8.one l, hnx⟩
    case round =>
    clear hnx
    obtain ⟨k, hk1, hk, rfl, HM, hnx⟩ := hrel
    by_cases hlt : k < l.length
    · have h0 : 0 < l.length := by omega
      obtain ⟨b1, o1, cs1, rfl, hb1, he1, _, hc1⟩ := evs_at (hrow.ext hnx) (ht.imp fun _ _ h => h.ext hnx) k hlt
      obtain ⟨b0, o0, cs0, hA0, hb0, he0, _, hc0⟩ := evs_at (hrow.ext hnx) (ht.imp fun _ _ h => h.ext hnx) 0 h0
      injection hA0 with hA0
      injection hA0 with hA1 hA2
      subst hA1 hA2
      have z0 := hc0 1 _ he0.gets.2.1
      simp only [Nat.zero_mul, Nat.add_zero] at z0
      have HY := hide (fun h : l[k].room = l[0].room => HM.out.step hlt h)
      have HN := hide (fun h : l[k].room ≠ l[0].room => check_mix HV.out h0 hlt h)
      have hlt0 : (0 : Int) < (l.length : Int) := by omega
      have z1 := hc1 1 _ he1.gets.2.1
      obtain ⟨x, hx⟩ : ∃ x, x = l[k].room := ⟨_, rfl⟩
      obtain ⟨y, hy⟩ : ∃ y, y = l[0].room := ⟨_, rfl⟩
      rw [← hx] at z1 HY HN
      rw [← hy] at z0 HY HN
      have hnx2 := hnx
      clear hc1 he1 hc0 he0 hx hy hnx
      by_cases hq : x = y
      · have t1 : (x.toList == y.toList) = true := str_yes hq
        have HS := hide (HY.out hq)
        clear hq HY HN
        go_wp2_with fail
        go_quiet (fail)
        have hnx3 := hnx2.trans ((below_drewN (ext_refl _) nq).mono hnx2.size)
        go_wp2_with fail
        go_roundw
        case rel => exact ⟨k + 1, by omega, by omega, by go_num, HS.out, hnx3⟩
        case measure => (simp [intOf]; try omega)
      · have t1 : (x.toList == y.toList) = false := str_ne hq
        have HF := hide (HN.out hq)
        clear hq HY HN
        go_wp2_with fail
        go_quiet (fail)
        have hnx3 := hnx2.trans ((below_drewN (ext_refl _) nq).mono hnx2.size)
        go_wp2_with fail
        go_ret
        exact ⟨by rw [HF.out]; rfl, hnx3⟩
    · have HM2 := hide (HM.out.fin (by omega))
      clear HM
      go_wp2_with fail
      go_loopw [6] (fun i wr => ∃ k : Nat, (k + 1 ≤ l.length ∨ k = 0) ∧ i = .int .i64 ((k : Int) + 1) ∧ Hid (Up8 l (k + 1)) ∧ Below w.heap.size w wr) (fun i _ => l.length - (intOf i).toNat)
      case atStart => exact ⟨0, .inr rfl, rfl, Up8.one l, hnx⟩
      case round =>
      clear hnx
      obtain ⟨k, hk3, rfl, HU, hnx⟩ := hrel
      by_cases hlt : k + 1 < l.length
      · obtain ⟨b1, o1, cs1, rfl, hb1, he1, _, hc1⟩ := evs_at (hrow.ext hnx) (ht.imp fun _ _ h => h.ext hnx) (k + 1) hlt
        obtain ⟨b0, o0, cs0, hA0, hb0, he0, _, hc0⟩ := evs_at (hrow.ext hnx) (ht.imp fun _ _ h => h.ext hnx) k (by omega)
        injection hA0 with hA0
        injection hA0 with hA1 hA2
        subst hA1 hA2
        have z0 := hc0 0 _ he0.gets.1
        have z1 := hc1 0 _ he1.gets.1
        simp only [Nat.add_zero] at z0 z1
        have HY := hide (fun h : l[k].id < l[k + 1].id => HU.out.step hlt h)
        have HN := hide (fun h : ¬ l[k].id < l[k + 1].id => check_down HV.out HM2.out hlt h)
        obtain ⟨x, hx⟩ : ∃ x, x = l[k].id := ⟨_, rfl⟩
        obtain ⟨y, hy⟩ : ∃ y, y = l[k + 1].id := ⟨_, rfl⟩
        rw [← hx] at z0 HY HN
        rw [← hy] at z1 HY HN
        clear hc1 he1 hc0 he0 hx hy
        by_cases hq : x < y
        · have t1 : decide (y ≤ x) = false := decide_eq_false (by omega)
          have HS := hide (HY.out hq)
          clear hq HY HN
          go_wp2_with fail
          go_quiet (fail)
          have hnx3 := hnx.trans ((below_drewN (ext_refl _) nq).mono hnx.size)
          go_wp2_with fail
          go_roundw
          case rel => exact ⟨k + 1, by omega, by go_num, HS.out, hnx3⟩
          case measure => (simp [intOf]; try omega)
        · have t1 : decide (y ≤ x) = true := decide_eq_true (by omega)
          have HF := hide (HN.out hq)
          clear hq HY HN
          go_wp2_with fail
          go_quiet (fail)
          have hnx3 := hnx.trans ((below_drewN (ext_refl _) nq).mono hnx.size)
          go_wp2_with fail
          go_ret
          exact ⟨by rw [HF.out]; rfl, hnx3⟩
      · have HF := hide (check_ok HV.out HM2.out (HU.out.fin (by omega)))
        go_wp2_with fail
        go_ret
        exact ⟨by rw [HF.out]; rfl, hnx⟩
end
end Go.Proofs.YtmlnmcoophnlaaaGreat

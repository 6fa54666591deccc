/-
  content's reader: number, text, truth, texts, count.
-/
import Derived.Test.YtnfbmhkjmkdmjaaGreatDecP
import Derived.Test.YtnfbmhkjmkdmjaaGreatAny
import Derived.Test.YtnfbmhkjmkdmjaaGreatCop6
import Derived.Maps.AppendAt
set_option linter.unusedVariables false
set_option linter.unusedSimpArgs false
namespace Go.Proofs.YtnfbmhkjmkdmjaaGreat
open Go.RowKit
attribute [local go_sem] Addr.add_mid
/-- a reader in block g: what it has before it, and whether it is bad -/
def RdR (w : World) (g : Nat) (S : Nat → Prop) (l : List UInt8) (bad : Bool) : Prop :=
  ∃ A c, w.heap[g]? = some (.cells [.slice A l.length c, .bool bad].toArray 133 (0, 0)) ∧ l.length ≤ c ∧ Row w w.heap.size A (bvs l) ∧ (l ≠ [] → ∀ ad, A = some ad → S ad.block)
theorem RdR.weak {w : World} {g : Nat} {S S' : Nat → Prop} {l : List UInt8} {bad : Bool} (h : RdR w g S l bad) (hS : ∀ b, S b → b < w.heap.size → S' b) : RdR w g S' l bad := by
  obtain ⟨A, c, h1, h2, h3, h4⟩ := h
  refine ⟨A, c, h1, h2, h3, fun hl ad ha => hS _ (h4 hl ad ha) ?_⟩
  obtain ⟨ad', e, hb, _⟩ := h3 (by intro h; exact hl (by simpa [bvs] using h))
  rw [ha] at e; injection e with e; subst e; exact hb
theorem RdR.lt {w : World} {g : Nat} {S : Nat → Prop} {l : List UInt8} {bad : Bool} (h : RdR w g S l bad) : g < w.heap.size := by
  obtain ⟨A, c, h1, _⟩ := h
  exact (Array.getElem?_eq_some_iff.1 h1).1
theorem RdR.ext {w w' : World} {g : Nat} {S : Nat → Prop} {l : List UInt8} {bad : Bool} (h : RdR w g S l bad) (k : Below w.heap.size w w') : RdR w' g S l bad := by
  obtain ⟨A, c, h1, h2, h3, h4⟩ := h
  exact ⟨A, c, box_below h1 k, h2, h3.ext k, h4⟩
/-- another block grows -/
theorem RdR.grown {w w' : World} {g : Nat} {S : Nat → Prop} {l : List UInt8} {bad : Bool} {row : Option Nat} (h : RdR w g S l bad) (hg : w.grownBy w' row) (hne : row ≠ some g) (hS : ∀ b, S b → row ≠ some b) : RdR w' g S l bad := by
  obtain ⟨A, c, h1, h2, h3, h4⟩ := h
  refine ⟨A, c, (hg.block g (Array.getElem?_eq_some_iff.1 h1).1 (fun e => hne e.symm)).trans h1, h2, fun hn => ?_, h4⟩
  obtain ⟨ad, ha, hb, hc⟩ := h3 hn
  refine ⟨ad, ha, Nat.lt_of_lt_of_le hb hg.size, fun j u hu => ?_⟩
  rw [← hc j u hu]
  exact World.cell?_of_block (by rw [block_of_add]; exact hg.block _ hb (Ne.symm (hS _ (h4 (by intro e; rw [e] at hn; exact hn rfl) ad ha))))
theorem sizeB : (Tryz.prog.info? 48).map (·.size) = some 1 := by kernel_rfl
theorem sizeT1 : (Tryz.prog.info? 4).map (·.size) = some 1 := by kernel_rfl
theorem below_grown {w w' w2 : World} {g : Nat} (h : Below w.heap.size w w') (k : w'.grownBy w2 (some g)) : w.grownBy w2 (some g) :=
  ⟨k.os.trans h.os, k.tape.trans h.tape, k.output.trans h.output, Nat.le_trans h.size k.size, fun i hi hne => (k.block i (Nat.lt_of_lt_of_le hi h.size) hne).trans (h.block i hi)⟩
theorem grown_below {w w' w2 : World} {row : Option Nat} (k : w.grownBy w' row) (h : Below w'.heap.size w' w2) : w.grownBy w2 row :=
  ⟨h.os.trans k.os, h.tape.trans k.tape, h.output.trans k.output, Nat.le_trans k.size h.size, fun i hi hne => (h.block i (Nat.lt_of_lt_of_le hi k.size)).trans (k.block i hi hne)⟩
/-- a number was read -/
def NumV (g : Nat) (l : List UInt8) (bad : Bool) (w : World) (e : Ending) (w' : World) : Prop :=
  ∃ x r ok, e = .returned (.int .i64 x) ∧ Res (getI l) 0 x r ok ∧ RdR w' g (w.heap.size ≤ ·) r (bad || !ok) ∧ w.grownBy w' (some g)
def TextV (g : Nat) (l : List UInt8) (bad : Bool) (w : World) (e : Ending) (w' : World) : Prop :=
  ∃ x r ok, e = .returned (.string (str x)) ∧ Res (getS l) [] x r ok ∧ RdR w' g (w.heap.size ≤ ·) r (bad || !ok) ∧ w.grownBy w' (some g)
def TruthV (g : Nat) (l : List UInt8) (bad : Bool) (w : World) (e : Ending) (w' : World) : Prop :=
  ∃ x r ok, e = .returned (.bool x) ∧ Res (getB l) false x r ok ∧ RdR w' g (w.heap.size ≤ ·) r (bad || !ok) ∧ w.grownBy w' (some g)
def TextsV (g : Nat) (l : List UInt8) (bad : Bool) (w : World) (e : Ending) (w' : World) : Prop :=
  ∃ v x r ok, e = .returned v ∧ Slc w' (w.heap.size ≤ ·) v 1 (x.map str).length (svs (x.map str)) ∧ Res (getL getw l) [] x r ok ∧ RdR w' g (w.heap.size ≤ ·) r (bad || !ok) ∧ w.grownBy w' (some g)
set_option maxRecDepth 100000 in
set_option maxHeartbeats 1600000 in
theorem rnumber {S : Nat → Prop} {g : Nat} {l : List UInt8} {bad : Bool} {w : World} (h : RdR w g S l bad) (hl : l.length ≤ 16777216) :
    Calls Tryz.prog 133 #[.pointer (some ⟨g, 0, none⟩)] w (NumV g l bad w) := by
  obtain ⟨A, c, hB, hc, hr, _⟩ := h
  have r0 := box_at hB (j := 0) rfl
  have r1 := box_at hB (j := 1) rfl
  have hgl : g < w.heap.size := (Array.getElem?_eq_some_iff.1 hB).1
  have CG := GetInt_any hr hc hl
  have HB := hide hB
  clear hB hr
  cases bad
  all_goals
    go_enter Tryz.func133, Tryz.ntmps133
    go_upto_region 2 with (go_at_call 128; refine CG.mono ?_; rintro e w1 ⟨x, r, ok, ⟨v', rfl, hown, hb⟩, hres⟩)
    obtain ⟨A', c', rfl, hc', _⟩ := own_form hown
    have HR := hide (Slc.own hown (by decide))
    have HB1 := hide (box_below HB.out hb)
    have r1' := (hb.cell hgl).trans r1
    clear CG r0 r1 hown
    go_wp2_with (refine wpList_store1 rfl (.tmp 27) (.tmp 17) rfl rfl sizeB g 0 rfl (.slice A' r.length c') rfl rfl _ _ HB1.out (by simp) ?_)
    intro w2 B2 g2 hz2
    replace B2 : w2.heap[g]? = some (.cells [.slice A' r.length c', _].toArray 133 (0, 0)) := B2
    have HB2 := hide B2
    have G2 := below_grown hb g2
    have HR2 := hide (HR.out.grown g2 (fun b hb1 e => by injection e with e; omega))
    clear B2 g2 r1' HR hz2
    go_wp2_with (refine wpList_store1 rfl (.tmp 29) (.tmp 25) rfl rfl sizeT1 g 1 rfl _ rfl rfl _ _ HB2.out (by simp) ?_)
    intro w3 B3 g3 hz3
    have HR3 := hide (HR2.out.grown g3 (fun b hb1 e => by injection e with e; omega))
    have G3 := G2.trans g3
    have HB3 := hide B3
    clear B3 hz3 g3
    go_wp2_with fail
    go_ret
    obtain ⟨A2, c2, hA, _, hc2, _, _, hr2, hs2⟩ := HR3.out
    injection hA with e1 e2 e3
    subst e1 e3
    exact ⟨x, r, ok, rfl, hres, ⟨A', c', HB3.out, hc', hr2, fun hl ad ha => hs2 (by simpa [bvs] using hl) ad ha⟩, G3⟩
set_option maxRecDepth 100000 in
set_option maxHeartbeats 1600000 in
theorem rtext {S : Nat → Prop} {g : Nat} {l : List UInt8} {bad : Bool} {w : World} (h : RdR w g S l bad) (hl : l.length ≤ 16777216) :
    Calls Tryz.prog 132 #[.pointer (some ⟨g, 0, none⟩)] w (TextV g l bad w) := by
  obtain ⟨A, c, hB, hc, hr, _⟩ := h
  have r0 := box_at hB (j := 0) rfl
  have r1 := box_at hB (j := 1) rfl
  have hgl : g < w.heap.size := (Array.getElem?_eq_some_iff.1 hB).1
  have CG := GetText_any hr hc hl
  have HB := hide hB
  clear hB hr
  cases bad
  all_goals
    go_enter Tryz.func132, Tryz.ntmps132
    go_upto_region 2 with (go_at_call 129; refine CG.mono ?_; rintro e w1 ⟨x, r, ok, ⟨v', rfl, hown, hb⟩, hres⟩)
    obtain ⟨A', c', rfl, hc', _⟩ := own_form hown
    have HR := hide (Slc.own hown (by decide))
    have HB1 := hide (box_below HB.out hb)
    have r1' := (hb.cell hgl).trans r1
    clear CG r0 r1 hown
    go_wp2_with (refine wpList_store1 rfl (.tmp 27) (.tmp 17) rfl rfl sizeB g 0 rfl (.slice A' r.length c') rfl rfl _ _ HB1.out (by simp) ?_)
    intro w2 B2 g2 hz2
    replace B2 : w2.heap[g]? = some (.cells [.slice A' r.length c', _].toArray 133 (0, 0)) := B2
    have HB2 := hide B2
    have G2 := below_grown hb g2
    have HR2 := hide (HR.out.grown g2 (fun b hb1 e => by injection e with e; omega))
    clear B2 g2 r1' HR hz2
    go_wp2_with (refine wpList_store1 rfl (.tmp 29) (.tmp 25) rfl rfl sizeT1 g 1 rfl _ rfl rfl _ _ HB2.out (by simp) ?_)
    intro w3 B3 g3 hz3
    have HR3 := hide (HR2.out.grown g3 (fun b hb1 e => by injection e with e; omega))
    have G3 := G2.trans g3
    have HB3 := hide B3
    clear B3 hz3 g3
    go_wp2_with fail
    go_ret
    obtain ⟨A2, c2, hA, _, hc2, _, _, hr2, hs2⟩ := HR3.out
    injection hA with e1 e2 e3
    subst e1 e3
    exact ⟨x, r, ok, rfl, hres, ⟨A', c', HB3.out, hc', hr2, fun hl ad ha => hs2 (by simpa [bvs] using hl) ad ha⟩, G3⟩
set_option maxRecDepth 100000 in
set_option maxHeartbeats 1600000 in
theorem rtruth {S : Nat → Prop} {g : Nat} {l : List UInt8} {bad : Bool} {w : World} (h : RdR w g S l bad) (hl : l.length ≤ 16777216) :
    Calls Tryz.prog 134 #[.pointer (some ⟨g, 0, none⟩)] w (TruthV g l bad w) := by
  obtain ⟨A, c, hB, hc, hr, _⟩ := h
  have r0 := box_at hB (j := 0) rfl
  have r1 := box_at hB (j := 1) rfl
  have hgl : g < w.heap.size := (Array.getElem?_eq_some_iff.1 hB).1
  have CG := GetBool_any hr hc hl
  have HB := hide hB
  clear hB hr
  cases bad
  all_goals
    go_enter Tryz.func134, Tryz.ntmps134
    go_upto_region 2 with (go_at_call 130; refine CG.mono ?_; rintro e w1 ⟨x, r, ok, ⟨v', rfl, hown, hb⟩, hres⟩)
    obtain ⟨A', c', rfl, hc', _⟩ := own_form hown
    have HR := hide (Slc.own hown (by decide))
    have HB1 := hide (box_below HB.out hb)
    have r1' := (hb.cell hgl).trans r1
    clear CG r0 r1 hown
    go_wp2_with (refine wpList_store1 rfl (.tmp 27) (.tmp 17) rfl rfl sizeB g 0 rfl (.slice A' r.length c') rfl rfl _ _ HB1.out (by simp) ?_)
    intro w2 B2 g2 hz2
    replace B2 : w2.heap[g]? = some (.cells [.slice A' r.length c', _].toArray 133 (0, 0)) := B2
    have HB2 := hide B2
    have G2 := below_grown hb g2
    have HR2 := hide (HR.out.grown g2 (fun b hb1 e => by injection e with e; omega))
    clear B2 g2 r1' HR hz2
    go_wp2_with (refine wpList_store1 rfl (.tmp 29) (.tmp 25) rfl rfl sizeT1 g 1 rfl _ rfl rfl _ _ HB2.out (by simp) ?_)
    intro w3 B3 g3 hz3
    have HR3 := hide (HR2.out.grown g3 (fun b hb1 e => by injection e with e; omega))
    have G3 := G2.trans g3
    have HB3 := hide B3
    clear B3 hz3 g3
    go_wp2_with fail
    go_ret
    obtain ⟨A2, c2, hA, _, hc2, _, _, hr2, hs2⟩ := HR3.out
    injection hA with e1 e2 e3
    subst e1 e3
    exact ⟨x, r, ok, rfl, hres, ⟨A', c', HB3.out, hc', hr2, fun hl ad ha => hs2 (by simpa [bvs] using hl) ad ha⟩, G3⟩
set_option maxRecDepth 100000 in
set_option maxHeartbeats 1600000 in
theorem rtexts {S : Nat → Prop} {g : Nat} {l : List UInt8} {bad : Bool} {w : World} (h : RdR w g S l bad) (hl : l.length ≤ 16777216) :
    Calls Tryz.prog 135 #[.pointer (some ⟨g, 0, none⟩)] w (TextsV g l bad w) := by
  obtain ⟨A, c, hB, hc, hr, _⟩ := h
  have r0 := box_at hB (j := 0) rfl
  have r1 := box_at hB (j := 1) rfl
  have hgl : g < w.heap.size := (Array.getElem?_eq_some_iff.1 hB).1
  have CG := GetTexts_any hr hc hl
  have HB := hide hB
  clear hB hr
  cases bad
  all_goals
    go_enter Tryz.func135, Tryz.ntmps135
    go_upto_region 2 with (go_at_call 168; refine CG.mono ?_; rintro e w1 ⟨x, r, ok, ⟨vt, v', rfl, hownt, hown, hb⟩, hres⟩)
    obtain ⟨A', c', rfl, hc', _⟩ := own_form hown
    have HR := hide (Slc.own hown (by decide))
    have HT := hide (Slc.own hownt (by decide))
    clear hownt
    have HB1 := hide (box_below HB.out hb)
    have r1' := (hb.cell hgl).trans r1
    clear CG r0 r1 hown
    go_wp2_with (refine wpList_store1 rfl (.tmp 27) (.tmp 17) rfl rfl sizeB g 0 rfl (.slice A' r.length c') rfl rfl _ _ HB1.out (by simp) ?_)
    intro w2 B2 g2 hz2
    replace B2 : w2.heap[g]? = some (.cells [.slice A' r.length c', _].toArray 133 (0, 0)) := B2
    have HB2 := hide B2
    have G2 := below_grown hb g2
    have HR2 := hide (HR.out.grown g2 (fun b hb1 e => by injection e with e; omega))
    have HT2 := hide (HT.out.grown g2 (fun b hb1 e => by injection e with e; omega))
    clear B2 g2 r1' HR HT hz2
    go_wp2_with (refine wpList_store1 rfl (.tmp 29) (.tmp 25) rfl rfl sizeT1 g 1 rfl _ rfl rfl _ _ HB2.out (by simp) ?_)
    intro w3 B3 g3 hz3
    have HR3 := hide (HR2.out.grown g3 (fun b hb1 e => by injection e with e; omega))
    have HT3 := hide (HT2.out.grown g3 (fun b hb1 e => by injection e with e; omega))
    have slt : Slc w3 (w.heap.size ≤ ·) vt 1 (x.map str).length (svs (x.map str)) := by have := HT3.out; rw [← sls_svs, List.length_map]; rwa [show (sls x).length = x.length by simp [sls]] at this
    have SLT := hide slt
    clear slt
    have G3 := G2.trans g3
    have HB3 := hide B3
    clear B3 hz3 g3
    go_wp2_with fail
    go_ret
    obtain ⟨A2, c2, hA, _, hc2, _, _, hr2, hs2⟩ := HR3.out
    injection hA with e1 e2 e3
    subst e1 e3
    exact ⟨vt, x, r, ok, rfl, SLT.out, hres, ⟨A', c', HB3.out, hc', hr2, fun hl ad ha => hs2 (by simpa [bvs] using hl) ad ha⟩, G3⟩
/-- a number of elements was read -/
def CountV (g : Nat) (l : List UInt8) (bad : Bool) (w : World) (e : Ending) (w' : World) : Prop :=
  ∃ (n : Nat) (x : Int) (r : List UInt8) (ok gd : Bool), e = .returned (.int .i64 (n : Int)) ∧ Res (getI l) 0 x r ok ∧ (gd = (decide (x < 0) || decide ((r.length : Int) / 2 < x))) ∧ (((bad || !ok) || gd) = true → n = 0) ∧ (((bad || !ok) || gd) = false → (n : Int) = x) ∧ n ≤ r.length / 2 ∧ RdR w' g (w.heap.size ≤ ·) r ((bad || !ok) || gd) ∧ w.grownBy w' (some g)
set_option maxRecDepth 100000 in
set_option maxHeartbeats 1600000 in
theorem rcount {S : Nat → Prop} {g : Nat} {l : List UInt8} {bad : Bool} {w : World} (h : RdR w g S l bad) (hl : l.length ≤ 16777216) :
    Calls Tryz.prog 169 #[.pointer (some ⟨g, 0, none⟩)] w (CountV g l bad w) := by
  have CN := rnumber h hl
  have hgl := h.lt
  clear h
  go_enter Tryz.func169, Tryz.ntmps169
  go_upto_region 2 with (go_at_call 133; refine CN.mono ?_; rintro e w1 ⟨x, r, ok, rfl, hres, hrd, hg⟩)
  have hrl := Nat.le_trans (resI_len hres) hl
  have hgw : g < w1.heap.size := Nat.lt_of_lt_of_le hgl hg.size
  obtain ⟨A, c, hB, hc, hr, hs⟩ := hrd
  have HR := hide hr; have HS := hide hs; have HG := hide hg; have HRES := hide hres
  clear hr hs hg hres CN
  obtain ⟨b1, hb1⟩ : ∃ b, (bad || !ok) = b := ⟨_, rfl⟩
  rw [hb1] at hB
  have HB1 := hide hb1
  clear hb1
  have r0 := box_at hB (j := 0) rfl
  have r1 := box_at hB (j := 1) rfl
  have HB := hide hB
  clear hB
  cases b1
  case true =>
    go_wp2_with (refine wpList_store1 rfl (.tmp 26) (.const (.bool true)) rfl rfl sizeT1 g 1 rfl (.bool true) rfl rfl _ _ HB.out (by simp) ?_)
    intro w2 B2 g2 hz2
    have HB2 := hide B2; have G2 := HG.out.trans g2
    have HG2 := hide g2
    clear B2 g2 hz2 r0 r1
    go_wp2_with fail
    go_ret
    refine ⟨0, x, r, ok, _, rfl, HRES.out, rfl, fun _ => rfl, fun h => ?_, Nat.zero_le _, ?_, G2⟩
    · rw [HB1.out] at h; simp at h
    · rw [HB1.out, Bool.true_or]
      exact ⟨A, c, HB2.out, hc, fun hn => by
        obtain ⟨ad, ha, hlt, hcl⟩ := HR.out hn
        refine ⟨ad, ha, Nat.lt_of_lt_of_le hlt HG2.out.size, fun j u hu => ?_⟩
        rw [← hcl j u hu]
        exact World.cell?_of_block (by rw [block_of_add]; exact HG2.out.block _ hlt (fun e => by injection e with e; have := HS.out (by intro e'; rw [e'] at hn; exact hn rfl) ad ha; omega)), HS.out⟩
  case false =>
    by_cases h0 : x < 0 ∨ (r.length : Int) / 2 < x
    · have hgd : (decide (x < 0) || decide ((r.length : Int) / 2 < x)) = true := by simpa using h0
      have HGD := hide hgd
      clear hgd
      have h0' : (x < 0) ∨ (¬ x < 0 ∧ (r.length : Int) / 2 < x) := by omega
      clear h0
      rcases h0' with h0 | ⟨h0, h1⟩
      all_goals
        go_wp2_with (refine wpList_store1 rfl (.tmp 26) (.const (.bool true)) rfl rfl sizeT1 g 1 rfl (.bool true) rfl rfl _ _ HB.out (by simp) ?_)
        intro w2 B2 g2 hz2
        have HB2 := hide B2; have G2 := HG.out.trans g2
        have HG2 := hide g2
        clear B2 g2 hz2 r0 r1
        go_wp2_with fail
        go_ret
        refine ⟨0, x, r, ok, _, rfl, HRES.out, rfl, fun _ => rfl, fun h => ?_, Nat.zero_le _, ?_, G2⟩
        · rw [HGD.out] at h; simp at h
        · rw [HGD.out, Bool.or_true]
          exact ⟨A, c, HB2.out, hc, fun hn => by
            obtain ⟨ad, ha, hlt, hcl⟩ := HR.out hn
            refine ⟨ad, ha, Nat.lt_of_lt_of_le hlt HG2.out.size, fun j u hu => ?_⟩
            rw [← hcl j u hu]
            exact World.cell?_of_block (by rw [block_of_add]; exact HG2.out.block _ hlt (fun e => by injection e with e; have := HS.out (by intro e'; rw [e'] at hn; exact hn rfl) ad ha; omega)), HS.out⟩
    · have hgd : (decide (x < 0) || decide ((r.length : Int) / 2 < x)) = false := by simp; omega
      have HGD := hide hgd
      have h1 : ¬ x < 0 := by omega
      have h2 : ¬ (r.length : Int) / 2 < x := by omega
      have h3 := hide (show ((x.toNat : Nat) : Int) = x by omega)
      have h4 : x.toNat ≤ r.length / 2 := by omega
      clear hgd h0
      go_wp2_with fail
      go_ret
      refine ⟨x.toNat, x, r, ok, _, by rw [h3.out]; rfl, HRES.out, rfl, fun h => ?_, fun _ => h3.out, h4, ?_, HG.out⟩
      · rw [HB1.out, HGD.out] at h; simp at h
      · rw [HB1.out, HGD.out]
        exact ⟨A, c, HB.out, hc, HR.out, HS.out⟩
end Go.Proofs.YtnfbmhkjmkdmjaaGreat

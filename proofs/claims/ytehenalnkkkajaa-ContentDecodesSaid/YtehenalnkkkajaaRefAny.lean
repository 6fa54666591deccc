/-
  fedchatref05: GetBool; and each Get function by one contract for every argument.
-/
import Derived.Test.YtehenalnkkkajaaRefGet2
import Derived.Test.YtehenalnkkkajaaAny
set_option linter.unusedVariables false
set_option linter.unusedSimpArgs false
set_option linter.unusedSectionVars false
namespace Go.Proofs.Ytehenalnkkkajaa
open Go.RowKit

theorem Res.unique {α : Type} {g : Option (α × List UInt8)} {z x x' : α} {r r' : List UInt8} {ok ok' : Bool} (h : Res g z x r ok) (h' : Res g z x' r' ok') : x' = x ∧ r' = r ∧ ok' = ok := by
  rcases h with ⟨rfl, h⟩ | ⟨rfl, rfl, rfl, h⟩ <;> rcases h' with ⟨rfl, h'⟩ | ⟨rfl, rfl, rfl, h'⟩
  · rw [h] at h'; simp only [Option.some.injEq, Prod.mk.injEq] at h'; exact ⟨h'.1.symm, h'.2.symm, rfl⟩
  · rw [h] at h'; cases h'
  · rw [h] at h'; cases h'
  · exact ⟨rfl, rfl, rfl⟩

set_option maxRecDepth 100000 in
set_option maxHeartbeats 400000 in
theorem RGetBool_none {B : Nat} {A : Option Addr} {c : Nat} {l : List UInt8} {w : World} (hr : Row w B A (bvs l)) (h : getB l = none) :
    Calls Try.prog 63 #[.slice A l.length c] w (RGot B (.bool false) [] false w) := by
  cases l with
  | nil =>
    clear h hr
    go_enter Try.func63, Try.ntmps63
    go_wp2_with fail
    go_ret3
    exact ⟨none, 0, rfl, Row.nil, Nat.le_refl _, Below.refl _ _⟩
  | cons x r =>
    have hx : 1 < x.toNat := by
      unfold getB at h
      dsimp only at h
      split at h
      · assumption
      · cases h
    obtain ⟨ad, rfl, _, hcell⟩ := hr.at (bvs_get (x :: r) 0 (by simp))
    simp only [List.getElem_cons_zero, bv, Addr.add, if_true] at hcell
    have h0 : (0 : Int) < ((x :: r).length : Int) := by simp
    generalize (x :: r).length = n at h0
    have h1 : ((n : Int) == 0) = false := beq_eq_false_iff_ne.2 (by omega)
    have h2 : (0 : Nat) < n := by omega
    clear h hr
    go_enter Try.func63, Try.ntmps63
    go_wp2_with fail
    go_ret3
    exact ⟨none, 0, rfl, Row.nil, Nat.le_refl _, Below.refl _ _⟩

set_option maxRecDepth 100000 in
set_option maxHeartbeats 400000 in
theorem RGetBool_some {B : Nat} {A : Option Addr} {c : Nat} {l : List UInt8} {w : World} (hr : Row w B A (bvs l)) (hc : l.length ≤ c) {is : Bool} {r : List UInt8} (h : getB l = some (is, r)) :
    Calls Try.prog 63 #[.slice A l.length c] w (RGot B (.bool is) r true w) := by
  cases l with
  | nil => cases h
  | cons x r' =>
    unfold getB at h
    dsimp only at h
    split at h
    · cases h
    · rename_i hx
      simp only [Option.some.injEq, Prod.mk.injEq] at h
      obtain ⟨hb, rfl⟩ := h
      have hr' := hr.cutA (size := 1) (k := 1) (c := c) (by simp [bvs]) hc
      rw [show (bvs (x :: r')).drop (1 * 1) = bvs r' from by simp [bvs]] at hr'
      obtain ⟨ad, rfl, hlt, hcell⟩ := hr.at (bvs_get (x :: r') 0 (by simp))
      simp only [List.getElem_cons_zero, bv, Addr.add, if_true] at hcell
      have hb' : (((x.toNat : Nat) : Int) == 1) = is := by rw [← hb]; rw [Bool.eq_iff_iff, beq_iff_eq, beq_iff_eq]; omega
      have h0 : (0 : Int) < ((x :: r').length : Int) := by simp
      have hrun := run_cut elemB (some ad) (x :: r').length c 1 (by simp)
      have hlen : r'.length = (x :: r').length - 1 := by simp
      have HLEN := hide hlen
      generalize hn : (x :: r').length = n at h0 hrun hc HLEN
      have h1 : ((n : Int) == 0) = false := beq_eq_false_iff_ne.2 (by omega)
      have h2 : (0 : Nat) < n := by omega
      have hx' : (x.toNat : Int) ≤ 1 := by omega
      have hrun' : ∀ w : World, (Instr.slice 41 (.slice (some ad) n c) (some (.int .i64 1)) none none).run Try.prog w = .ok (.slice (cutA (some ad) c 1 1) (n - 1) (c - 1)) w := hrun
      clear hr hb hx hn hrun hlen
      go_enter Try.func63, Try.ntmps63
      go_wp2_with fail
      go_quiet (fail)
      go_wp2_with fail
      go_ret3
      exact ⟨cutA (some ad) c 1 1, c - 1, by rw [HLEN.out]; rfl, hr', by rw [HLEN.out]; omega, below_drewN (Below.refl _ _) _⟩

def RI (B : Nat) (l : List UInt8) (w : World) (e : Ending) (w' : World) : Prop := ∃ x r ok, RGot B (.int .i64 x) r ok w e w' ∧ Res (getI l) 0 x r ok
def RS (B : Nat) (l : List UInt8) (w : World) (e : Ending) (w' : World) : Prop := ∃ x r ok, RGot B (.string (str x)) r ok w e w' ∧ Res (getS l) [] x r ok
def RIs (B : Nat) (l : List UInt8) (w : World) (e : Ending) (w' : World) : Prop := ∃ x r ok, RGot2 B 3 (ivs x) r ok w e w' ∧ Res (getL geti l) [] x r ok
def RSs (B : Nat) (l : List UInt8) (w : World) (e : Ending) (w' : World) : Prop := ∃ x r ok, RGot2 B 9 (sls x) r ok w e w' ∧ Res (getL getw l) [] x r ok
def RB (B : Nat) (l : List UInt8) (w : World) (e : Ending) (w' : World) : Prop := ∃ x r ok, RGot B (.bool x) r ok w e w' ∧ Res (getB l) false x r ok

section
variable {B : Nat} {A : Option Addr} {c : Nat} {l : List UInt8} {w : World} (hB : B ≤ w.heap.size) (hr : Row w B A (bvs l)) (hc : l.length ≤ c) (hl : l.length ≤ 16777216)
include hB hr hc hl
theorem RGetInt_at : Calls Try.prog 62 #[.slice A l.length c] w (RI B l w) := by
  cases h : geti l with
  | none => exact (RGetInt_none hr rfl hc hl h).mono fun e w' hg => ⟨_, _, _, hg, by rw [getI_none h]; exact Res.no⟩
  | some p => obtain ⟨x, k⟩ := p; exact (RGetInt_some hr rfl hc hl h).mono fun e w' hg => ⟨_, _, _, hg, by rw [getI_some h]; exact Res.yes⟩
theorem RGetText_at : Calls Try.prog 61 #[.slice A l.length c] w (RS B l w) := by
  cases h : getw l with
  | none => exact (RGetText_none hr rfl hc hl h).mono fun e w' hg => ⟨_, _, _, hg, by rw [getS_none h]; exact Res.no⟩
  | some p => obtain ⟨x, k⟩ := p; exact (RGetText_some hr rfl hc hl h).mono fun e w' hg => ⟨_, _, _, hg, by rw [getS_some h]; exact Res.yes⟩
theorem RGetTexts_at : Calls Try.prog 64 #[.slice A l.length c] w (RSs B l w) := by
  cases h : getL getw l with
  | none => exact (RGetTexts_none hB hr hc hl h).mono fun e w' hg => ⟨[], [], false, hg, by rw [h]; exact Res.no⟩
  | some p => obtain ⟨x, r⟩ := p; exact (RGetTexts_some hB hr hc hl h).mono fun e w' hg => ⟨_, _, _, hg, by rw [h]; exact Res.yes⟩
theorem RGetBool_at : Calls Try.prog 63 #[.slice A l.length c] w (RB B l w) := by
  cases h : getB l with
  | none => exact (RGetBool_none hr h).mono fun e w' hg => ⟨_, _, _, hg, by rw [h]; exact Res.no⟩
  | some p => obtain ⟨x, r⟩ := p; exact (RGetBool_some hr hc h).mono fun e w' hg => ⟨_, _, _, hg, by rw [h]; exact Res.yes⟩
end
section
variable {A : Option Addr} {c : Nat} {l : List UInt8} {w : World} (hr : Row w w.heap.size A (bvs l)) (hc : l.length ≤ c) (hl : l.length ≤ 16777216)
include hr hc hl
theorem RGetInt_res : Calls Try.prog 62 #[.slice A l.length c] w (RI w.heap.size l w) := RGetInt_at (Nat.le_refl _) hr hc hl
theorem RGetText_res : Calls Try.prog 61 #[.slice A l.length c] w (RS w.heap.size l w) := RGetText_at (Nat.le_refl _) hr hc hl
theorem RGetTexts_res : Calls Try.prog 64 #[.slice A l.length c] w (RSs w.heap.size l w) := RGetTexts_at (Nat.le_refl _) hr hc hl
theorem RGetBool_res : Calls Try.prog 63 #[.slice A l.length c] w (RB w.heap.size l w) := RGetBool_at (Nat.le_refl _) hr hc hl
end
end Go.Proofs.Ytehenalnkkkajaa

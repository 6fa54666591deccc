/-
  codec: GetInts, GetTexts, GetBool.
-/
import Derived.Test.YtnfbmhkjmkdmjaaGreatElems
set_option linter.unusedVariables false
set_option linter.unusedSimpArgs false
namespace Go.Proofs.YtnfbmhkjmkdmjaaGreat
open Go.RowKit

set_option maxRecDepth 100000 in
set_option maxHeartbeats 400000 in
theorem GetInts_none {A : Option Addr} {c : Nat} {l : List UInt8} {w : World} (hr : Row w w.heap.size A (bvs l)) (hc : l.length ≤ c) (hl : l.length ≤ 16777216) (h : getL geti l = none) :
    Calls Tryz.prog 131 #[.slice A l.length c] w (Got2 3 [] [] false w) := by
  go_enter Tryz.func131, Tryz.ntmps131
  go_wp2_with fail
  refine (ints_none hr hc hl h).mono ?_
  rintro e w1 ⟨v, v2, rfl, h1, h2, h3⟩
  go_wp2_with fail
  go_ret3
  exact ⟨_, _, rfl, h1, h2, h3⟩

set_option maxRecDepth 100000 in
set_option maxHeartbeats 400000 in
theorem GetInts_some {A : Option Addr} {c : Nat} {l : List UInt8} {w : World} (hr : Row w w.heap.size A (bvs l)) (hc : l.length ≤ c) (hl : l.length ≤ 16777216) {zs : List (Int)} {r : List UInt8} (h : getL geti l = some (zs, r)) :
    Calls Tryz.prog 131 #[.slice A l.length c] w (Got2 3 (ivs zs) r true w) := by
  go_enter Tryz.func131, Tryz.ntmps131
  go_wp2_with fail
  refine (ints_some hr hc hl h).mono ?_
  rintro e w1 ⟨v, v2, rfl, h1, h2, h3⟩
  go_wp2_with fail
  go_ret3
  exact ⟨_, _, rfl, h1, h2, h3⟩

set_option maxRecDepth 100000 in
set_option maxHeartbeats 400000 in
theorem GetTexts_none {A : Option Addr} {c : Nat} {l : List UInt8} {w : World} (hr : Row w w.heap.size A (bvs l)) (hc : l.length ≤ c) (hl : l.length ≤ 16777216) (h : getL getw l = none) :
    Calls Tryz.prog 168 #[.slice A l.length c] w (Got2 9 [] [] false w) := by
  go_enter Tryz.func168, Tryz.ntmps168
  go_wp2_with fail
  refine (texts_none hr hc hl h).mono ?_
  rintro e w1 ⟨v, v2, rfl, h1, h2, h3⟩
  go_wp2_with fail
  go_ret3
  exact ⟨_, _, rfl, h1, h2, h3⟩

set_option maxRecDepth 100000 in
set_option maxHeartbeats 400000 in
theorem GetTexts_some {A : Option Addr} {c : Nat} {l : List UInt8} {w : World} (hr : Row w w.heap.size A (bvs l)) (hc : l.length ≤ c) (hl : l.length ≤ 16777216) {zs : List (List UInt8)} {r : List UInt8} (h : getL getw l = some (zs, r)) :
    Calls Tryz.prog 168 #[.slice A l.length c] w (Got2 9 (sls zs) r true w) := by
  go_enter Tryz.func168, Tryz.ntmps168
  go_wp2_with fail
  refine (texts_some hr hc hl h).mono ?_
  rintro e w1 ⟨v, v2, rfl, h1, h2, h3⟩
  go_wp2_with fail
  go_ret3
  exact ⟨_, _, rfl, h1, h2, h3⟩

set_option maxRecDepth 100000 in
set_option maxHeartbeats 400000 in
theorem GetBool_none {A : Option Addr} {c : Nat} {l : List UInt8} {w : World} (hr : Row w w.heap.size A (bvs l)) (h : getB l = none) :
    Calls Tryz.prog 130 #[.slice A l.length c] w (Got (.bool false) [] false w) := by
  cases l with
  | nil =>
    clear h hr
    go_enter Tryz.func130, Tryz.ntmps130
    go_wp2_with fail
    go_ret3
    exact ⟨_, rfl, World.ownsRow_nil _ _ _ _, Below.refl _ _⟩
  | cons x r =>
    have hx : 1 < x.toNat := by
      unfold getB at h
      dsimp only at h
      split at h
      · assumption
      · cases h
    obtain ⟨ad, rfl, _, hcell⟩ := hr.at (bvs_get (x :: r) 0 (by simp))
    simp only [List.getElem_cons_zero, bv, Addr.add, if_true] at hcell
    have h0 : (0 : Int) < ((x :: r).length : Int) := by simp
    generalize (x :: r).length = n at h0
    have h1 : ((n : Int) == 0) = false := beq_eq_false_iff_ne.2 (by omega)
    have h2 : (0 : Nat) < n := by omega
    clear h hr
    go_enter Tryz.func130, Tryz.ntmps130
    go_wp2_with fail
    go_ret3
    exact ⟨_, rfl, World.ownsRow_nil _ _ _ _, Below.refl _ _⟩

set_option maxRecDepth 100000 in
set_option maxHeartbeats 400000 in
theorem GetBool_some {A : Option Addr} {c : Nat} {l : List UInt8} {w : World} (hr : Row w w.heap.size A (bvs l)) (hc : l.length ≤ c) (hl : l.length ≤ 1073741824) {is : Bool} {r : List UInt8} (h : getB l = some (is, r)) :
    Calls Tryz.prog 130 #[.slice A l.length c] w (Got (.bool is) r true w) := by
  cases l with
  | nil => cases h
  | cons x r' =>
    unfold getB at h
    dsimp only at h
    split at h
    · cases h
    · rename_i hx
      simp only [Option.some.injEq, Prod.mk.injEq] at h
      obtain ⟨hb, rfl⟩ := h
      have hrest : Calls Tryz.prog 165 #[.slice A (x :: r').length c, .int .i64 1] w.drew (OwnB w.heap.size r' w.drew) := rest_any A c (x :: r') 1 w.drew hr (by simp) hc hl
      obtain ⟨ad, rfl, hlt, hcell⟩ := hr.at (bvs_get (x :: r') 0 (by simp))
      simp only [List.getElem_cons_zero, bv, Addr.add, if_true] at hcell
      have hb' : (((x.toNat : Nat) : Int) == 1) = is := by rw [← hb]; rw [Bool.eq_iff_iff, beq_iff_eq, beq_iff_eq]; omega
      have h0 : (0 : Int) < ((x :: r').length : Int) := by simp
      
      generalize hn : (x :: r').length = n at h0
      rw [hn] at hrest
      have HRL := hide hrest
      have h1 : ((n : Int) == 0) = false := beq_eq_false_iff_ne.2 (by omega)
      have h2 : (0 : Nat) < n := by omega
      have hx' : (x.toNat : Int) ≤ 1 := by omega
      clear hr hc hl hrest hb hx hn
      go_enter Tryz.func130, Tryz.ntmps130
      go_wp2_with fail
      go_region_held3 (fun w' => w'.cell? ad = some (.int .u8 (x.toNat : Int))) (first | exact (hb.cell hlt).trans hcell | go_keep)
        (first | (go_at_call 165; refine HRL.out.mono ?_; rintro e w1 ⟨v1, rfl, hown, hb⟩))
      go_wp2_with fail
      go_ret3
      exact ⟨_, rfl, hown, ((Below.refl _ _).drew).trans hb⟩
end Go.Proofs.YtnfbmhkjmkdmjaaGreat

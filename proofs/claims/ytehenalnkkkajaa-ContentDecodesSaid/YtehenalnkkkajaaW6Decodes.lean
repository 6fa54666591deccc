/-
  ContentDecodes: the walk.
-/
import Derived.Test.YtehenalnkkkajaaSmall6
import Derived.Test.YtehenalnkkkajaaRDecC
import Derived.Test.YtehenalnkkkajaaLaw6P
set_option linter.unusedVariables false
set_option linter.unusedSimpArgs false
namespace Go.Proofs.Ytehenalnkkkajaa
open Go.RowKit
open Classical
section
attribute [local go_sem] Addr.add_mid
set_option maxRecDepth 100000 in
set_option maxHeartbeats 4000000 in
theorem decodes6_any {A : Option Addr} {k : Nat} {l : List UInt8} {w : World} (hr : Row w w.heap.size A (bvs l)) (hc : l.length ≤ k) : Calls Try.prog 7 #[.slice A l.length k] w (Says true w) := by
  by_cases hl : 3000 < l.length
  · clear hr hc
    go_enter Try.func7, Try.ntmps7
    go_wp2_with fail
    go_ret
    exact ⟨rfl, ext_refl _⟩
  have CA := Decode_any hr hc (by omega)
  have CB := fun W (h : Below w.heap.size w W) => R6Decode_any (hr.ext h) hc (by omega)
  have hl' : ¬ (3000 : Int) < (l.length : Int) := by omega
  clear hr hc hl
  go_enter Try.func7, Try.ntmps7
  go_upto_region 4 with (first
    | (go_at_call 27; refine CA.mono ?_; rintro e w1 ⟨cs1, c1, o1, rfl, R1, f1, hy1, hn1, hb1⟩; have HL1 := hide R1.length; have HO1 := hide R1.one)
    | refine wpList_newS rfl rfl strcC rfl (.tmp 3) (.tmp 13) rfl rfl rfl cs1.toArray rfl (by simpa using HL1.out) (by simpa using HO1.out) ?_)
  have B1 := heap_alloc_new w1 (.cells cs1.toArray 33)
  have hx1 := ext_alloc (ext_refl w1) (.cells cs1.toArray 33)
  have R2 := R1.ext hx1
  have hb2 := ext_trans hb1 hx1
  generalize w1.alloc (.cells cs1.toArray 33) = w2 at B1 hx1 R2 hb2 ⊢
  generalize w1.heap.size = g1 at B1 ⊢
  have HB1 := hide B1
  have HY1 := hide hy1; have HN1 := hide hn1
  clear B1 hx1 hb1 R1 CA hy1 hn1
  go_upto_region 5 with (first
    | (go_at_call 29; refine (CB _ hb2).mono ?_; rintro e w3 ⟨cs2, c2, o2, rfl, R3, f2, hy2, hn2, hb3⟩; have HL2 := hide R3.length; have HO2 := hide R3.one)
    | refine wpList_newS rfl rfl strcC rfl (.tmp 5) (.tmp 18) rfl rfl rfl cs2.toArray rfl (by simpa using HL2.out) (by simpa using HO2.out) ?_)
  have B2 := heap_alloc_new w3 (.cells cs2.toArray 33)
  have hx2 := ext_alloc (ext_refl w3) (.cells cs2.toArray 33)
  have R4 := R3.ext hx2
  have hb4 := ext_trans hb3 hx2
  generalize w3.alloc (.cells cs2.toArray 33) = w4 at B2 hx2 R4 hb4 ⊢
  generalize w3.heap.size = g2 at B2 ⊢
  have R5 := R2.ext hb4
  have HB3 := hide (box_below HB1.out hb4)
  have HB2 := hide B2
  have heq : o1 = o2 ∧ c1 = c2 := by
    cases o1 with
    | true =>
      cases o2 with
      | true => exact ⟨rfl, encCon_inj f1.told f2.told ((HY1.out rfl).symm.trans (hy2 rfl))⟩
      | false => exact absurd (HY1.out rfl) ((hn2 rfl).2 _ f1.told)
    | false =>
      cases o2 with
      | true => exact absurd (hy2 rfl) ((HN1.out rfl).2 _ f2.told)
      | false => exact ⟨rfl, (HN1.out rfl).1.trans (hn2 rfl).1.symm⟩
  obtain ⟨e1, e2⟩ := heq
  subst e1 e2
  have CC := R6Same_any R5 R4 f1.fit f1.fit
  simp only [decide_true] at CC
  clear B2 hx2 R2 R3 R4 R5 CB hy2 hn2 HY1 HN1 HB1 hb3
  have hb5 := ext_trans hb2 hb4
  clear hb2 hb4
  cases o1
  all_goals
    go_wp2_with (first
      | refine wpList_loadS rfl (.tmp 3) rfl strcC ⟨g1, 0, none⟩ rfl cs1 HL1.out (box_all HB3.out) ?_
      | refine wpList_loadS rfl (.tmp 5) rfl strcC ⟨g2, 0, none⟩ rfl cs2 HL2.out (box_all HB2.out) ?_
      | (go_at_call 20; refine CC.mono ?_; rintro e w5 ⟨rfl, hb6⟩)
      | (go_at_call 15; refine (live_any _).mono ?_; rintro e wl ⟨rfl, hbl⟩))
    go_ret
    exact ⟨rfl, ext_trans hb5 (ext_trans hb6 hbl)⟩
end
end Go.Proofs.Ytehenalnkkkajaa

/-
  ContentRemains: the walk.
-/
import Derived.Test.YtehenalnkkkajaaSmall6
import Derived.Test.YtehenalnkkkajaaLaw6P
set_option linter.unusedVariables false
set_option linter.unusedSimpArgs false
namespace Go.Proofs.Ytehenalnkkkajaa
open Go.RowKit
open Classical
section
attribute [local go_sem] Addr.add_mid
set_option maxRecDepth 100000 in
set_option maxHeartbeats 4000000 in
theorem remains6_any {cs : List Value} {c : Con} {k : Int} {w : World} (hr : ConR w Any cs c) (ho : c.ok) : Calls Try.prog 11 #[.int .i64 k, .agg cs.toArray] w (Says true w) := by
  have HR := hide hr; have HO := hide ho; have HL := hide hr.length
  have B := heap_alloc_new w (.cells cs.toArray 33)
  have hb := ext_alloc (ext_refl w) (.cells cs.toArray 33)
  clear hr ho
  go_enter Try.func11, Try.ntmps11
  go_upto_region 1 with fail
  generalize w.alloc (.cells cs.toArray 33) = W at B hb ⊢
  have HB := hide B
  clear B
  go_wp2_with (refine wpList_loadS rfl (.tmp 3) rfl strcC ⟨w.heap.size, 0, none⟩ rfl cs HL.out (box_all HB.out) ?_)
  refine (small6_any (HR.out.ext hb)).mono ?_
  rintro e w1 ⟨b, rfl, hs, hb1⟩
  have hbb := ext_trans hb hb1
  cases b
  case false =>
    go_wp2_with (go_at_call 15; refine (live_any _).mono ?_; rintro e wl ⟨rfl, hbl⟩)
    go_ret
    exact ⟨rfl, ext_trans hbb hbl⟩
  have HS := hide (hs rfl)
  have HB1 := hide (box_below HB.out hb1)
  have R1 := HR.out.ext hbb
  clear hs hb hb1 HB
  have hm := (HS.out.fine HO.out).mild
  have CK := Check_any (k := k) R1 hm
  by_cases h0 : ckE k c = 0
  case neg =>
    obtain ⟨er, her⟩ : ∃ er, ckE k c = er := ⟨_, rfl⟩
    rw [her] at CK h0
    have h0' : (er != 0) = true := by simpa using h0
    clear her h0
    go_wp2_with (first | refine wpList_loadS rfl (.tmp 3) rfl strcC ⟨w.heap.size, 0, none⟩ rfl cs HL.out (box_all HB1.out) ?_ | (go_at_call 30; refine CK.mono ?_; rintro e w2 ⟨rfl, hb2⟩) | (go_at_call 15; refine (live_any _).mono ?_; rintro e wl ⟨rfl, hbl⟩))
    go_ret
    exact ⟨rfl, ext_trans hbb (ext_trans hb2 hbl)⟩
  have hrem := ckE_remains h0
  rw [h0] at CK
  clear h0
  have f1 := (HS.out.fine HO.out).fit
  have hm2 := stripC_mild (k := k) hm
  have CA := fun W (h : Below w1.heap.size w1 W) => CStrip_any (k := k) (R1.ext h) f1
  obtain ⟨d, hd⟩ : ∃ d, stripC k c = d := ⟨_, rfl⟩
  rw [hd] at hrem hm2
  simp only [hd] at CA
  clear hd
  have HRM := hide hrem
  clear hrem
  go_wp2_with (first
    | refine wpList_loadS rfl (.tmp 3) rfl strcC ⟨w.heap.size, 0, none⟩ rfl cs HL.out (box_all HB1.out) ?_
    | (go_at_call 30; (with_reducible refine CK.mono ?_); rintro e w2 ⟨rfl, hb2⟩; have HB2 := hide (box_below HB1.out hb2))
    | refine wpList_loadS rfl (.tmp 3) rfl strcC ⟨w.heap.size, 0, none⟩ rfl cs HL.out (box_all HB2.out) ?_
    | (go_at_call 18; (with_reducible refine (CA _ hb2).mono ?_); rintro e w3 ⟨cs3, rfl, R3, hb3⟩; have hb13 := ext_trans hb2 hb3; have CL := Check_any (k := k) R3 hm2; rw [HRM.out] at CL)
    | (go_at_call 30; (with_reducible refine CL.mono ?_); rintro e w4 ⟨rfl, hb4⟩; have hb14 := ext_trans hb13 hb4)
    | (go_at_call 15; refine (live_any _).mono ?_; rintro e wl ⟨rfl, hbl⟩))
  go_ret
  exact ⟨rfl, ext_trans hbb (ext_trans hb14 hbl)⟩
end
end Go.Proofs.Ytehenalnkkkajaa

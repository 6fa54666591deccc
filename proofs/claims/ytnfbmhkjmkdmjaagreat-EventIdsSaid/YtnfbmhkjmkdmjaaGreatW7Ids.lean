/-
  EventIds: the walk.
-/
import Derived.Test.YtnfbmhkjmkdmjaaGreatLives
import Derived.Test.YtnfbmhkjmkdmjaaGreatEvP
import Derived.Test.YtnfbmhkjmkdmjaaGreatREvVer
import Derived.Test.YtnfbmhkjmkdmjaaGreatPhaseB
set_option linter.unusedVariables false
set_option linter.unusedSimpArgs false
namespace Go.Proofs.YtnfbmhkjmkdmjaaGreat
open Go.RowKit
open Classical
section
open Go.ChangeShapes Go.WideShapes Go.ChangeAt Go.RowKit Go.Deep
variable {H : Type} {enc : TypeId × Value → H} {W : World} {base : Nat} {spare : Nat → Bool} {held : Bool}
set_option maxRecDepth 100000 in
theorem read_sig {r : Reach} {b0 : Nat} {v : Value} {d : DataW H} {p : List MemPlace} (hv : Value.okWide Tryz.prog W r b0 32 v) (h : DataW.Trod enc Tryz.prog W base spare held 32 v d p) :
    ∃ s n, v = .agg #[.string s, .int .i64 n] := by
  obtain ⟨cs, rfl, hsz⟩ := okWide_struct Tryz.underlying32 hv
  obtain ⟨fuel, hf⟩ := h
  have hcl : (Value.agg cs).cells.toList = cs.toList := by simp [Value.cells]
  rw [hcl] at hf
  have hl : cs.toList.length = 2 := by rw [Array.length_toList, hsz]; exact cG
  obtain ⟨xs2, n2, _, _, _, hxl2, hf2⟩ := DataW.trod_struct Tryz.underlying32 hf
  obtain ⟨y13, t13⟩ := read_field hxl2 hf2 0 _ rfl 1 cS
  obtain ⟨y14, t14⟩ := read_field hxl2 hf2 1 _ rfl 1 cI
  obtain ⟨l⟩ := cs
  match l, hl with
  | [c0, c1], _ =>
    obtain ⟨s13, rfl, w13⟩ := field_string (c := c0) Tryz.underlying9 t13
    obtain ⟨i14, rfl, w14⟩ := field_int (c := c1) Tryz.underlying3 t14
    exact ⟨_, _, rfl⟩
end
section
attribute [local go_sem] Addr.add_mid
theorem idV_plain (e : Ev) (id : Int) (s : ByteArray) (n : Int) : plainE { e with id := id, server := s, sum := n } = plainE e := rfl
set_option maxRecDepth 100000 in
set_option maxHeartbeats 8000000 in
theorem ids7_any {cs : List Value} {e : Ev} {id : Int} {s : ByteArray} {n : Int} {w : World} (hr : EvR w Any cs e) (ho : e.ok) : Calls Tryz.prog 4 #[.agg cs.toArray, .int .i64 id, .agg #[.string s, .int .i64 n]] w (Says true w) := by
  have HR := hide hr; have HO := hide ho; have HL := hide hr.length
  have BA := heap_alloc2_old w (.cells cs.toArray 34) (.cells #[.string s, .int .i64 n] 32)
  have BB := heap_alloc2_new w (.cells cs.toArray 34) (.cells #[.string s, .int .i64 n] 32)
  have hb := below_two w (.cells cs.toArray 34) (.cells #[.string s, .int .i64 n] 32)
  clear hr ho
  go_enter Tryz.func4, Tryz.ntmps4
  go_upto_region 1 with fail
  generalize (w.alloc (.cells cs.toArray 34)).alloc (.cells #[.string s, .int .i64 n] 32) = W at BA BB hb ⊢
  have HA := hide BA; have HB := hide BB
  clear BA BB
  go_wp2_with (refine wpList_loadS rfl (.tmp 3) rfl strcE ⟨w.heap.size, 0, none⟩ rfl cs HL.out (box_all HA.out) ?_)
  refine (small7_any (HR.out.ext hb) HO.out).mono ?_
  rintro x w1 ⟨b, rfl, hs, hb1⟩
  have hbb := ext_trans hb hb1
  cases b
  case false =>
    go_wp2_with (go_at_call 10; refine (lives_any _).mono ?_; rintro x wl ⟨rfl, hbl⟩)
    go_ret
    exact ⟨rfl, ext_trans hbb hbl⟩
  have HG := hide (hs rfl)
  have HA1 := hide (box_below HA.out hb1); have HB1 := hide (box_below HB.out hb1)
  have q0 := box_at (C := [.string s, .int .i64 n]) HB1.out (j := 0) (u := .string s) rfl
  have R1 := HR.out.ext hbb
  clear hs hb hb1 HA HB
  by_cases hlen : (100 : Int) < (s.size : Int)
  · go_wp2_with (go_at_call 10; refine (lives_any _).mono ?_; rintro x wl ⟨rfl, hbl⟩)
    go_ret
    exact ⟨rfl, ext_trans hbb hbl⟩
  go_upto_region 4 with (first
    | refine wpList_loadS rfl (.tmp 3) rfl strcE ⟨w.heap.size, 0, none⟩ rfl cs HL.out (box_all HA1.out) ?_
    | refine wpList_newS rfl rfl strcE rfl (.tmp 7) (.tmp 18) rfl rfl rfl cs.toArray rfl (by simpa using HL.out) (by simpa using R1.one) ?_)
  have B3 := heap_alloc_new w1 (.cells cs.toArray 34)
  have kb3 := ext_alloc (ext_refl w1) (.cells cs.toArray 34)
  have R3 := (R1.weak (S' := fun b => b < w1.heap.size) (fun b _ h => h)).ext kb3
  have hwg : w.heap.size + 1 < w1.heap.size := (Array.getElem?_eq_some_iff.1 HB1.out).1
  have KB := ext_trans hbb kb3
  have HA3 := hide (box_below HA1.out kb3); have HB3 := hide (box_below HB1.out kb3)
  generalize w1.alloc (.cells cs.toArray 34) = w3 at B3 kb3 R3 KB HA3 HB3 ⊢
  generalize w1.heap.size = g at B3 R3 hwg kb3 ⊢
  clear q0 kb3 R1 HA1 HB1 hbb hlen
  have hbx : Below w3.heap.size w3 w3.drew := ext_drew (ext_refl w3)
  have B3 := box_below B3 hbx
  have R3 := R3.ext hbx
  have KB := ext_trans KB hbx
  have HA3 := hide (box_below HA3.out hbx); have B2 := box_below HB3.out hbx
  obtain ⟨wd, hWD⟩ : ∃ wd, wd = w3.drew := ⟨_, rfl⟩
  rw [← hWD] at B3 R3 KB HA3 B2
  refine wp_region_phase (fun w' => w'.heap[w.heap.size + 1]? = some (.cells #[.string s, .int .i64 n] 32 (0, 0))) [] (by kernel_rfl) ?_
  rw [show { w3 with drawn := w3.drawn + 1 } = wd from hWD.symm]
  clear hWD hbx HB3
  refine wpAnyP_take (i := 0) rfl (by kernel_rfl) (by kernel_rfl) (by kernel_rfl) (by kernel_rfl) (fun _ _ _ h => h) (yieldsIf_run (.int .i64 id) rfl (fun w' => by go_simp)) B2 ?_
  refine wpAnyP_take (i := 1) rfl (by kernel_rfl) (by kernel_rfl) (by kernel_rfl) (by kernel_rfl) (fun _ _ _ h => h) (yieldsIf_loadS rfl (.tmp 5) rfl strcSig ⟨w.heap.size + 1, 0, none⟩ rfl [.string s, .int .i64 n] rfl (fun w2 hT => box_all hT)) B2 ?_
  refine wpAnyP_take (i := 2) rfl (by kernel_rfl) (by kernel_rfl) (by kernel_rfl) (by kernel_rfl) (fun _ _ _ h => h) (yieldsIf_run (.pointer (some ⟨g, 0, none⟩)) rfl (fun w' => by go_simp)) B2 ?_
  go_simp
  refine wpAnyP_one' (i := 3) (by kernel_rfl) rfl ?_
  refine wpList_store1 rfl (.tmp 21) (.tmp 19) rfl rfl sizeI g 0 rfl (.int .i64 id) rfl rfl cs 34 B3 (by rw [HL.out]; simp) ?_
  intro w4 B4 g4 z4
  have R4 := R3.grown g4 (fun q hq e => by injection e with e; omega)
  have KB4 := KB.grown g4 KB.size (fun q hq => by injection hq with hq; omega)
  have B2' := box_grown B2 g4 (by omega)
  have HA4 := hide (box_grown HA3.out g4 (by omega))
  clear R3 KB B3 g4 z4 B2 HA3
  refine nextP B2' ?_
  go_simp
  refine wpAnyP_take (i := 4) rfl (by kernel_rfl) (by kernel_rfl) (by kernel_rfl) (by kernel_rfl) (fun _ _ _ h => h) (yieldsIf_run (.pointer (some ⟨g, 27, none⟩)) rfl (fun w' => by go_simp)) B2' ?_
  go_simp
  refine wpAnyP_one' (i := 5) (by kernel_rfl) rfl ?_
  have HLp := hide (show (patch cs 0 [.int .i64 id]).length = 29 by rw [patch_length _ _ _ (by rw [HL.out]; simp)]; exact HL.out)
  refine wpList_storeB rfl (.tmp 22) (.tmp 20) rfl rfl strcSig g 27 rfl [.string s, .int .i64 n] rfl rfl (by simp [Value.oneCell']) (patch cs 0 [.int .i64 id]) 34 B4 (by rw [HLp.out]; decide) ?_
  intro w5 B5 g5 z5
  have R5 := R4.grown g5 (fun q hq e => by injection e with e; omega)
  have KB5 := KB4.grown g5 KB4.size (fun q hq => by injection hq with hq; omega)
  have B5' := box_grown B2' g5 (by omega)
  have HA6 := hide (box_grown HA4.out g5 (by omega))
  refine nextP B5' ?_
  clear R4 KB4 B4 g5 z5 B2' HA4 B5'
  go_simp
  refine wpAnyP_done (by kernel_rfl) ?_
  have R6 : EvR w5 (fun b => b < g) (patch (patch cs 0 [.int .i64 id]) 27 [.string s, .int .i64 n]) { e with id := id, server := s, sum := n } := by
    obtain ⟨vp, vq, va, vd, vu, vk, rfl, h1, h2, h3, h4, h5, h6⟩ := R5
    exact ⟨vp, vq, va, vd, vu, vk, rfl, h1, h2, h3, h4, h5, h6⟩
  have HL6 := hide R6.length
  have HB6 := hide B5
  have R1 := HR.out.ext KB5
  have CA := fun W (h : Below w5.heap.size w5 W) => Hash_any (R1.ext h) HG.out.cputs
  have CB := fun W (h : Below w5.heap.size w5 W) => R7Hash_any (R1.ext h) HG.out.cputs
  have CC := fun W (h : Below w5.heap.size w5 W) => IdOf_any (R1.ext h) HG.out.fit HG.out.plain.puts
  have CD := fun W (h : Below w5.heap.size w5 W) => R7IdOf_any (R1.ext h) HG.out.fit HG.out.plain.puts
  have CE := fun W (h : Below w5.heap.size w5 W) => Whole_any (R1.ext h) HG.out.cputs
  have CF := fun W (h : Below w5.heap.size w5 W) => R7Whole_any (R1.ext h) HG.out.cputs
  have CG := fun W (h : Below w5.heap.size w5 W) => IdOf_any (R6.ext h) HG.out.fit (by rw [idV_plain]; exact HG.out.plain.puts)
  have hi6 : idV { e with id := id, server := s, sum := n } = idV e := by unfold idV; rw [idV_plain]
  simp only [hi6] at CG
  obtain ⟨hv, hhv⟩ : ∃ v, hashV e = v := ⟨_, rfl⟩
  obtain ⟨iv, hiv⟩ : ∃ v, idV e = v := ⟨_, rfl⟩
  obtain ⟨wb, hwb⟩ : ∃ v, wholeB e = v := ⟨_, rfl⟩
  simp only [hhv] at CA CB
  simp only [hiv] at CC CD CG
  simp only [hwb] at CE CF
  clear hhv hiv hwb hi6 R1 R5 R6 B5
  go_wp2_with fail
  refine wp_region_now (by kernel_rfl) ?_
  intro Y hY
  have T0 : Below Y.heap.size Y Y := ext_refl Y
  have HA6Y := hide (box_below HA6.out hY)
  have HB6Y := hide (box_below HB6.out hY)
  refine wpAnyP_take (i := 0) rfl (by kernel_rfl) (by kernel_rfl) (by kernel_rfl) (by kernel_rfl) (fun _ _ _ h => h) (yieldsIf_loadS rfl (.tmp 3) rfl strcE ⟨w.heap.size, 0, none⟩ rfl cs HL.out (fun w2 hT => box_all (box_below HA6Y.out hT))) T0 ?_
  refine wpAnyP_take (i := 2) rfl (by kernel_rfl) (by kernel_rfl) (by kernel_rfl) (by kernel_rfl) (fun _ _ _ h => h) (yieldsIf_loadS rfl (.tmp 3) rfl strcE ⟨w.heap.size, 0, none⟩ rfl cs HL.out (fun w2 hT => box_all (box_below HA6Y.out hT))) T0 ?_
  go_simp
  refine wpAnyP_oneQ (i := 1) (by kernel_rfl) rfl ?_
  go_wp2_with fail
  refine (CA _ (ext_trans hY T0)).mono ?_
  rintro x c1 ⟨rfl, hc1⟩
  have T1 := ext_trans T0 hc1
  go_wp2_with fail
  refine nextQ T1 ?_
  go_simp
  go_simp
  refine wpAnyP_oneQ (i := 3) (by kernel_rfl) rfl ?_
  go_wp2_with fail
  refine (CB _ (ext_trans hY T1)).mono ?_
  rintro x c2 ⟨rfl, hc2⟩
  have T2 := ext_trans T1 hc2
  go_wp2_with fail
  refine nextQ T2 ?_
  go_simp
  refine wpAnyP_take (i := 4) rfl (by kernel_rfl) (by kernel_rfl) (by kernel_rfl) (by kernel_rfl) (fun _ _ _ h => h) (yieldsIf_run (.bool true) rfl (fun w' => by go_simp)) T2 ?_
  go_simp
  refine wpAnyP_take (i := 5) rfl (by kernel_rfl) (by kernel_rfl) (by kernel_rfl) (by kernel_rfl) (fun _ _ _ h => h) (yieldsIf_run (.bool true) rfl (fun w' => by go_simp)) T2 ?_
  refine wpAnyP_take (i := 6) rfl (by kernel_rfl) (by kernel_rfl) (by kernel_rfl) (by kernel_rfl) (fun _ _ _ h => h) (yieldsIf_loadS rfl (.tmp 3) rfl strcE ⟨w.heap.size, 0, none⟩ rfl cs HL.out (fun w2 hT => box_all (box_below HA6Y.out hT))) T2 ?_
  refine wpAnyP_take (i := 8) rfl (by kernel_rfl) (by kernel_rfl) (by kernel_rfl) (by kernel_rfl) (fun _ _ _ h => h) (yieldsIf_loadS rfl (.tmp 3) rfl strcE ⟨w.heap.size, 0, none⟩ rfl cs HL.out (fun w2 hT => box_all (box_below HA6Y.out hT))) T2 ?_
  go_simp
  go_simp
  refine wpAnyP_oneQ (i := 7) (by kernel_rfl) rfl ?_
  go_wp2_with fail
  refine (CC _ (ext_trans hY T2)).mono ?_
  rintro x c3 ⟨rfl, hc3⟩
  have T3 := ext_trans T2 hc3
  go_wp2_with fail
  refine nextQ T3 ?_
  go_simp
  go_simp
  refine wpAnyP_oneQ (i := 9) (by kernel_rfl) rfl ?_
  go_wp2_with fail
  refine (CD _ (ext_trans hY T3)).mono ?_
  rintro x c4 ⟨rfl, hc4⟩
  have T4 := ext_trans T3 hc4
  go_wp2_with fail
  refine nextQ T4 ?_
  go_simp
  refine wpAnyP_take (i := 10) rfl (by kernel_rfl) (by kernel_rfl) (by kernel_rfl) (by kernel_rfl) (fun _ _ _ h => h) (yieldsIf_run (.bool true) rfl (fun w' => by go_simp)) T4 ?_
  refine wpAnyP_take (i := 11) rfl (by kernel_rfl) (by kernel_rfl) (by kernel_rfl) (by kernel_rfl) (fun _ _ _ h => h) (yieldsIf_run (.bool true) rfl (fun w' => by go_simp)) T4 ?_
  refine wpAnyP_take (i := 12) rfl (by kernel_rfl) (by kernel_rfl) (by kernel_rfl) (by kernel_rfl) (fun _ _ _ h => h) (yieldsIf_run (.bool true) rfl (fun w' => by go_simp)) T4 ?_
  go_simp
  refine wpAnyP_take (i := 13) rfl (by kernel_rfl) (by kernel_rfl) (by kernel_rfl) (by kernel_rfl) (fun _ _ _ h => h) (yieldsIf_loadS rfl (.tmp 3) rfl strcE ⟨w.heap.size, 0, none⟩ rfl cs HL.out (fun w2 hT => box_all (box_below HA6Y.out hT))) T4 ?_
  refine wpAnyP_take (i := 15) rfl (by kernel_rfl) (by kernel_rfl) (by kernel_rfl) (by kernel_rfl) (fun _ _ _ h => h) (yieldsIf_loadS rfl (.tmp 3) rfl strcE ⟨w.heap.size, 0, none⟩ rfl cs HL.out (fun w2 hT => box_all (box_below HA6Y.out hT))) T4 ?_
  go_simp
  refine wpAnyP_oneQ (i := 14) (by kernel_rfl) rfl ?_
  go_wp2_with fail
  refine (CE _ (ext_trans hY T4)).mono ?_
  rintro x c5 ⟨rfl, hc5⟩
  have T5 := ext_trans T4 hc5
  go_wp2_with fail
  refine nextQ T5 ?_
  go_simp
  go_simp
  refine wpAnyP_oneQ (i := 16) (by kernel_rfl) rfl ?_
  go_wp2_with fail
  refine (CF _ (ext_trans hY T5)).mono ?_
  rintro x c6 ⟨rfl, hc6⟩
  have T6 := ext_trans T5 hc6
  go_wp2_with fail
  refine nextQ T6 ?_
  go_simp
  refine wpAnyP_take (i := 17) rfl (by kernel_rfl) (by kernel_rfl) (by kernel_rfl) (by kernel_rfl) (fun _ _ _ h => h) (yieldsIf_run (.bool true) rfl (fun w' => by go_simp)) T6 ?_
  go_simp
  refine wpAnyP_take (i := 18) rfl (by kernel_rfl) (by kernel_rfl) (by kernel_rfl) (by kernel_rfl) (fun _ _ _ h => h) (yieldsIf_run (.bool true) rfl (fun w' => by go_simp)) T6 ?_
  refine wpAnyP_take (i := 19) rfl (by kernel_rfl) (by kernel_rfl) (by kernel_rfl) (by kernel_rfl) (fun _ _ _ h => h) (yieldsIf_run (.bool true) rfl (fun w' => by go_simp)) T6 ?_
  refine wpAnyP_take (i := 20) rfl (by kernel_rfl) (by kernel_rfl) (by kernel_rfl) (by kernel_rfl) (fun _ _ _ h => h) (yieldsIf_loadS rfl (.tmp 7) rfl strcE ⟨g, 0, none⟩ rfl (patch (patch cs 0 [.int .i64 id]) 27 [.string s, .int .i64 n]) HL6.out (fun w2 hT => box_all (box_below HB6Y.out hT))) T6 ?_
  go_simp
  refine wpAnyP_take (i := 22) rfl (by kernel_rfl) (by kernel_rfl) (by kernel_rfl) (by kernel_rfl) (fun _ _ _ h => h) (yieldsIf_loadS rfl (.tmp 3) rfl strcE ⟨w.heap.size, 0, none⟩ rfl cs HL.out (fun w2 hT => box_all (box_below HA6Y.out hT))) T6 ?_
  go_simp
  refine wpAnyP_oneQ (i := 21) (by kernel_rfl) rfl ?_
  go_wp2_with fail
  refine (CG _ (ext_trans hY T6)).mono ?_
  rintro x c7 ⟨rfl, hc7⟩
  have T7 := ext_trans T6 hc7
  go_wp2_with fail
  refine nextQ T7 ?_
  go_simp
  go_simp
  refine wpAnyP_oneQ (i := 23) (by kernel_rfl) rfl ?_
  go_wp2_with fail
  refine (CC _ (ext_trans hY T7)).mono ?_
  rintro x c8 ⟨rfl, hc8⟩
  have T8 := ext_trans T7 hc8
  go_wp2_with fail
  refine nextQ T8 ?_
  go_simp
  refine wpAnyP_take (i := 24) rfl (by kernel_rfl) (by kernel_rfl) (by kernel_rfl) (by kernel_rfl) (fun _ _ _ h => h) (yieldsIf_run (.bool true) rfl (fun w' => by go_simp)) T8 ?_
  refine wpAnyP_take (i := 25) rfl (by kernel_rfl) (by kernel_rfl) (by kernel_rfl) (by kernel_rfl) (fun _ _ _ h => h) (yieldsIf_run (.bool true) rfl (fun w' => by go_simp)) T8 ?_
  go_simp
  refine wpAnyP_take (i := 26) rfl (by kernel_rfl) (by kernel_rfl) (by kernel_rfl) (by kernel_rfl) (fun _ _ _ h => h) (yieldsIf_run (.bool true) rfl (fun w' => by go_simp)) T8 ?_
  go_simp
  refine wpAnyP_oneQ (i := 27) (by kernel_rfl) rfl ?_
  go_wp2_with fail
  refine (lives_any _).mono ?_
  rintro x c9 ⟨rfl, hc9⟩
  have T9 := ext_trans T8 hc9
  go_wp2_with fail
  refine nextQ T9 ?_
  go_simp
  refine wpAnyP_take (i := 28) rfl (by kernel_rfl) (by kernel_rfl) (by kernel_rfl) (by kernel_rfl) (fun _ _ _ h => h) (yieldsIf_run (.bool true) rfl (fun w' => by go_simp)) T9 ?_
  refine wpAnyP_take (i := 29) rfl (by kernel_rfl) (by kernel_rfl) (by kernel_rfl) (by kernel_rfl) (fun _ _ _ h => h) (yieldsIf_run (.bool true) rfl (fun w' => by go_simp)) T9 ?_
  go_simp
  go_simp
  refine wpAnyP_done (by kernel_rfl) ?_
  go_wp2_with fail
  go_ret
  exact ⟨rfl, ext_trans KB5 (ext_trans hY T9)⟩
end
end Go.Proofs.YtnfbmhkjmkdmjaaGreat

/-
  '==' of two signatures.
  event: Sign.
  event: Verify, Receive.
-/
import Derived.Test.YtmlnmcoophnlaaaGreatEvStr
import Derived.Laws.StructEq
import Derived.Test.YtmlnmcoophnlaaaGreatEvChk
import Derived.Test.YtmlnmcoophnlaaaGreatEvP
import Derived.Test.YtmlnmcoophnlaaaGreatCSame
set_option linter.unusedVariables false
set_option linter.unusedSimpArgs false
namespace Go.Proofs.YtmlnmcoophnlaaaGreat
section
open Go.RowKit
set_option maxRecDepth 100000 in
@[go_sem] theorem eqSig (s t : ByteArray) (a b : Int) (w : World) : (Op.equalIn 10000 33 (.agg #[.string s, .int .i64 a]) (.agg #[.string t, .int .i64 b])).run Tryz.prog w = .ok (decide (s = t) && decide (a = b)) w := by
  have u1 := Tryz.underlying9
  have u2 := Tryz.underlying3
  have a1 := Tryz.isAgg9
  have z1 := Tryz.sizeOf9
  have a2 := Tryz.isAgg3
  have z2 := Tryz.sizeOf3
  have hS : Tryz.prog.underlying 33 = some (.struct (Tryz.prog.fieldsOf 33)) := by kernel_rfl
  have hp : Tryz.prog.stoodInHeld 33 = false := by kernel_rfl
  rw [show (10000 : Nat) = 9999 + 1 from rfl, run_equalIn_agg w 9999 33 _ _ hS hp]
  simp only [Program.fieldsOf, Tryz.underlying33]
  go_simp
  by_cases h1 : s = t
  · subst h1
    by_cases h2 : a = b <;> simp [h2]
  · have h3 : ¬ s.toList = t.toList := fun h => h1 (by
      rw [ByteArray.toList_eq, ByteArray.toList_eq] at h
      cases s; cases t; congr 1; exact Array.toList_inj.1 h)
    by_cases h2 : a = b <;> simp [h1, h2, h3]
end

section
open Go.RowKit
attribute [local go_sem] Addr.add_mid
end

section
open Go.RowKit
attribute [local go_sem] Addr.add_mid
theorem ite_sig (s t : ByteArray) (a b : Int) (w : World) : (if s.toList = t.toList then if a = b then Result.ok (Next.value (.bool false)) w else Result.ok (Next.value (.bool true)) w else Result.ok (Next.value (.bool true)) w) = (Result.ok (Next.value (.bool (!(decide (s = t) && decide (a = b))))) w : Result Next) := by
  by_cases h1 : s = t
  · subst h1
    by_cases h2 : a = b <;> simp [h2]
  · have h3 : ¬ s.toList = t.toList := fun h => h1 (str_eq_of h)
    by_cases h2 : a = b <;> simp [h1, h2, h3]
def spoilB (e : Ev) : Bool := !wholeB e && !decide (e.con = stripC e.kind e.con)
def sigB (e : Ev) : Bool := decide (e.server = partB e.sender) && decide (e.sum = e.id)
def verE (e : Ev) : Int := if evE e ≠ 0 then evE e else if spoilB e = true then 6 else if idV e ≠ e.id then 11 else if sigB e = false then 12 else 0
def recE (e : Ev) : Ev := if wholeB e then e else stripE e
theorem Ev.good.check {S : Nat → Prop} {cs : List Value} {e : Ev} {w : World} (hr : EvR w S cs e) (h : e.good) : Calls Tryz.prog 57 #[.agg cs.toArray] w (Errs (evE e) w) :=
  EvCheck_any hr h.mild (by have := h.room; omega) (by have := h.sender; omega) (by have := h.key; omega) (by have := h.prev; omega) (by have := h.auth; omega)
set_option maxRecDepth 100000 in
set_option maxHeartbeats 4000000 in
theorem Verify_any {S : Nat → Prop} {cs : List Value} {e : Ev} {w : World} (hr : EvR w S cs e) (hg : e.good) :
    Calls Tryz.prog 43 #[.agg cs.toArray] w (Errs (verE e) w) := by
  obtain ⟨s0, s1, s2, s3, s4, s5, s6, s7, s26, s27, s28⟩ := hr.gets
  have HL := hide hr.length
  have HLC := hide (show ((cs.drop 10).take 16).length = 16 by rw [List.length_take, List.length_drop, hr.length]; rfl)
  have q27 : (cs.drop 27).take 2 = [.string e.server, .int .i64 e.sum] := by
    obtain ⟨_, _, _, _, _, _, rfl, _⟩ := hr; rfl
  have HQ := hide q27
  have BE := heap_alloc_new w (.cells cs.toArray 35)
  have hb := ext_alloc (ext_refl w) (.cells cs.toArray 35)
  have CK := fun W (h : Below w.heap.size w W) => hg.check (hr.ext h)
  have CW := fun W (h : Below w.heap.size w W) => Whole_any (hr.ext h) hg.cputs
  have CT := fun W (h : Below w.heap.size w W) => CStrip_any (k := e.kind) (hr.con.ext h) hg.fit
  have CI := fun W (h : Below w.heap.size w W) => IdOf_any (hr.ext h) hg.fit hg.plain.puts
  have CV := fun W => ids_ServerOf e.sender W (by have := hg.sender; omega)
  have HR := hide hr
  have f1 := hide hg.fit
  have f2 := hide (stripC_fit (k := e.kind) hg.fit)
  obtain ⟨ev, hev⟩ : ∃ v, evE e = v := ⟨_, rfl⟩
  obtain ⟨wb, hwb⟩ : ∃ v, wholeB e = v := ⟨_, rfl⟩
  obtain ⟨sb, hsb⟩ : ∃ v, decide (e.con = stripC e.kind e.con) = v := ⟨_, rfl⟩
  obtain ⟨iv, hiv⟩ : ∃ v, idV e = v := ⟨_, rfl⟩
  obtain ⟨pv, hpv⟩ : ∃ v, partB e.sender = v := ⟨_, rfl⟩
  simp only [hev] at CK; simp only [hwb] at CW; simp only [hiv] at CI; simp only [hpv] at CV
  have HS := hide hsb
  have HV := hide (show verE e = if ev ≠ 0 then ev else if (!wb && !sb) = true then 6 else if iv ≠ e.id then 11 else if (decide (e.server = pv) && decide (e.sum = e.id)) = false then 12 else 0 by
    unfold verE spoilB sigB; rw [hev, hwb, hsb, hiv, hpv])
  generalize verE e = E at HV ⊢
  have HBE := hide BE
  clear hr hg BE hev hwb hsb hiv hpv q27 s1 s4 s5 s6 s7 s26 s27 s28
  go_enter Tryz.func43, Tryz.ntmps43
  go_upto_region 2 with (first
    | refine wpList_loadS rfl (.tmp 1) rfl strcE ⟨w.heap.size, 0, none⟩ rfl cs HL.out (box_all HBE.out) ?_
    | (go_at_call 57; refine (CK _ hb).mono ?_; rintro x w1 ⟨rfl, hb1⟩))
  by_cases z : ev = 0
  rotate_left
  · have z1 : (ev != 0) = true := by simpa using z
    have HF := hide (show E = ev by rw [HV.out, if_pos z])
    clear z
    go_wp2_with fail
    go_ret
    exact ⟨by rw [HF.out]; rfl, ext_trans hb hb1⟩
  subst z
  have KB := ext_trans hb hb1
  have HB1 := hide (box_below HBE.out hb1)
  have HV2 := hide (show E = if (!wb && !sb) = true then 6 else if iv ≠ e.id then 11 else if (decide (e.server = pv) && decide (e.sum = e.id)) = false then 12 else 0 by rw [HV.out, if_neg (by simp)])
  clear HV CK hb hb1 HBE
  go_upto_region 4 with fail
  obtain ⟨nb, hnb⟩ : ∃ b, (!wb && !sb) = b := ⟨_, rfl⟩
  have tail : ∀ (Z : World), Below w1.heap.size w1 Z → nb = nb → True := fun _ _ _ => trivial
  clear tail
  cases wb
  case true =>
    have HV3 := hide (show E = if iv ≠ e.id then 11 else if (decide (e.server = pv) && decide (e.sum = e.id)) = false then 12 else 0 by rw [HV2.out]; exact if_neg (by simp))
    clear hnb nb
    refine wp_region_now (by kernel_rfl) ?_
    intro Y hY
    have T0 : Below Y.heap.size Y Y := ext_refl Y
    have HBY := hide (box_below HB1.out hY)
    refine wpAnyP_take (i := 0) rfl (by kernel_rfl) (by kernel_rfl) (by kernel_rfl) (by kernel_rfl) (fun _ _ _ h => h) (yieldsIf_loadS rfl (.tmp 1) rfl strcE ⟨w.heap.size, 0, none⟩ rfl cs HL.out (fun w2 hT => box_all (box_below HBY.out hT))) T0 ?_
    go_simp
    refine wpAnyP_oneQ (i := 1) (by kernel_rfl) rfl ?_
    go_wp2_with fail
    refine (CW _ (ext_trans KB (ext_trans hY T0))).mono ?_
    rintro x c1 ⟨rfl, hc1⟩
    have T1 := ext_trans T0 hc1
    go_wp2_with fail
    refine nextQ T1 ?_
    go_simp
    refine wpAnyP_take (i := 2) rfl (by kernel_rfl) (by kernel_rfl) (by kernel_rfl) (by kernel_rfl) (fun _ _ _ h => h) (yieldsIf_run (.bool false) rfl (fun w' => by go_simp)) T1 ?_
    refine wpAnyP_take (i := 3) rfl (by kernel_rfl) (by kernel_rfl) (by kernel_rfl) (by kernel_rfl) (fun _ _ _ h => h) (yieldsIf_run (.bool false) rfl (fun w' => by go_simp)) T1 ?_
    go_simp
    refine wpAnyP_take (i := 4) rfl (by kernel_rfl) (by kernel_rfl) (by kernel_rfl) (by kernel_rfl) (fun _ _ _ h => h) (v := undef) (.inr ⟨rfl, rfl⟩) T1 ?_
    refine wpAnyP_take (i := 5) rfl (by kernel_rfl) (by kernel_rfl) (by kernel_rfl) (by kernel_rfl) (fun _ _ _ h => h) (v := undef) (.inr ⟨rfl, rfl⟩) T1 ?_
    refine wpAnyP_take (i := 6) rfl (by kernel_rfl) (by kernel_rfl) (by kernel_rfl) (by kernel_rfl) (fun _ _ _ h => h) (v := undef) (.inr ⟨rfl, rfl⟩) T1 ?_
    go_simp
    refine wpAnyP_take (i := 7) rfl (by kernel_rfl) (by kernel_rfl) (by kernel_rfl) (by kernel_rfl) (fun _ _ _ h => h) (v := undef) (.inr ⟨rfl, rfl⟩) T1 ?_
    refine wpAnyP_take (i := 8) rfl (by kernel_rfl) (by kernel_rfl) (by kernel_rfl) (by kernel_rfl) (fun _ _ _ h => h) (v := undef) (.inr ⟨rfl, rfl⟩) T1 ?_
    refine wpAnyP_take (i := 9) rfl (by kernel_rfl) (by kernel_rfl) (by kernel_rfl) (by kernel_rfl) (fun _ _ _ h => h) (v := undef) (.inr ⟨rfl, rfl⟩) T1 ?_
    go_simp
    refine wpAnyP_take (i := 10) rfl (by kernel_rfl) (by kernel_rfl) (by kernel_rfl) (by kernel_rfl) (fun _ _ _ h => h) (v := undef) (.inr ⟨rfl, rfl⟩) T1 ?_
    refine wpAnyP_take (i := 11) rfl (by kernel_rfl) (by kernel_rfl) (by kernel_rfl) (by kernel_rfl) (fun _ _ _ h => h) (v := undef) (.inr ⟨rfl, rfl⟩) T1 ?_
    refine wpAnyP_take (i := 12) rfl (by kernel_rfl) (by kernel_rfl) (by kernel_rfl) (by kernel_rfl) (fun _ _ _ h => h) (v := undef) (.inr ⟨rfl, rfl⟩) T1 ?_
    go_simp
    refine wpAnyP_take (i := 13) rfl (by kernel_rfl) (by kernel_rfl) (by kernel_rfl) (by kernel_rfl) (fun _ _ _ h => h) (yieldsIf_run (.bool false) rfl (fun w' => by go_simp)) T1 ?_
    refine wpAnyP_take (i := 14) rfl (by kernel_rfl) (by kernel_rfl) (by kernel_rfl) (by kernel_rfl) (fun _ _ _ h => h) (yieldsIf_run (.bool false) rfl (fun w' => by go_simp)) T1 ?_
    go_simp
    refine wpAnyP_done (by kernel_rfl) ?_
    have KD := ext_trans KB (ext_trans hY T1)
    have HBD := hide (box_below HBY.out T1)
    clear hY T0 T1
    go_upto_region 6 with fail
    refine wp_region_now (by kernel_rfl) ?_
    intro Y hY
    have T0 : Below Y.heap.size Y Y := ext_refl Y
    have HBY := hide (box_below HBD.out hY)
    refine wpAnyP_take (i := 0) rfl (by kernel_rfl) (by kernel_rfl) (by kernel_rfl) (by kernel_rfl) (fun _ _ _ h => h) (yieldsIf_loadS rfl (.tmp 1) rfl strcE ⟨w.heap.size, 0, none⟩ rfl cs HL.out (fun w2 hT => box_all (box_below HBY.out hT))) T0 ?_
    refine wpAnyP_take (i := 2) rfl (by kernel_rfl) (by kernel_rfl) (by kernel_rfl) (by kernel_rfl) (fun _ _ _ h => h) (yieldsIf_run (.pointer (some ⟨w.heap.size, 0, none⟩)) rfl (fun w' => by go_simp)) T0 ?_
    refine wpAnyP_take (i := 3) rfl (by kernel_rfl) (by kernel_rfl) (by kernel_rfl) (by kernel_rfl) (fun _ _ _ h => h) (yieldsIf_load rfl rfl Tryz.underlying3 rfl rfl (fun w2 hT => box_at (box_below HBY.out hT) (j := 0) (u := .int .i64 e.id) s0)) T0 ?_
    go_simp
    go_simp
    refine wpAnyP_oneQ (i := 1) (by kernel_rfl) rfl ?_
    go_wp2_with fail
    refine (CI _ (ext_trans KD (ext_trans hY T0))).mono ?_
    rintro x c1 ⟨rfl, hc1⟩
    have T1 := ext_trans T0 hc1
    go_wp2_with fail
    refine nextQ T1 ?_
    go_simp
    refine wpAnyP_take (i := 4) rfl (by kernel_rfl) (by kernel_rfl) (by kernel_rfl) (by kernel_rfl) (fun _ _ _ h => h) (yieldsIf_run (.bool (iv != e.id)) rfl (fun w' => by go_simp)) T1 ?_
    refine wpAnyP_take (i := 5) rfl (by kernel_rfl) (by kernel_rfl) (by kernel_rfl) (by kernel_rfl) (fun _ _ _ h => h) (yieldsIf_run (.bool (iv != e.id)) rfl (fun w' => by go_simp)) T1 ?_
    go_simp
    refine wpAnyP_done (by kernel_rfl) ?_
    have KC := ext_trans KD (ext_trans hY T1)
    have HBC := hide (box_below HBY.out T1)
    by_cases q : iv = e.id
    rotate_left
    · have q1 : (iv != e.id) = true := by simpa using q
      have HF := hide (show E = 11 by rw [HV3.out, if_pos q])
      simp only [q1]
      clear q
      go_wp2_with fail
      go_ret
      exact ⟨by rw [HF.out]; rfl, KC⟩
    have q1 : (iv != e.id) = false := by simpa using q
    have HV5 := hide (show E = if (decide (e.server = pv) && decide (e.sum = e.id)) = false then 12 else 0 by rw [HV3.out, if_neg (by simpa using q)])
    simp only [q1]
    clear q hY T0 T1
    go_upto_region 8 with fail
    obtain ⟨gb, hgb⟩ : ∃ b, (!(decide (e.server = pv) && decide (e.sum = e.id))) = b := ⟨_, rfl⟩
    have HG := hide hgb
    have HF := hide (show E = if gb = true then 12 else 0 by rw [HV5.out, ← hgb]; cases (decide (e.server = pv) && decide (e.sum = e.id)) <;> rfl)
    clear hgb
    refine wp_region_now (by kernel_rfl) ?_
    intro Y hY
    have T0 : Below Y.heap.size Y Y := ext_refl Y
    have HBY := hide (box_below HBC.out hY)
    refine wpAnyP_take (i := 0) rfl (by kernel_rfl) (by kernel_rfl) (by kernel_rfl) (by kernel_rfl) (fun _ _ _ h => h) (yieldsIf_run (.pointer (some ⟨w.heap.size, 27, none⟩)) rfl (fun w' => by go_simp)) T0 ?_
    refine wpAnyP_take (i := 1) rfl (by kernel_rfl) (by kernel_rfl) (by kernel_rfl) (by kernel_rfl) (fun _ _ _ h => h) (yieldsIf_loadS rfl (.tmp 31) rfl strcSig ⟨w.heap.size, 27, none⟩ rfl [.string e.server, .int .i64 e.sum] rfl (fun w2 hT => by have h := box_cells (box_below HBY.out hT) 27 2; rw [HQ.out] at h; exact h)) T0 ?_
    refine wpAnyP_take (i := 2) rfl (by kernel_rfl) (by kernel_rfl) (by kernel_rfl) (by kernel_rfl) (fun _ _ _ h => h) (yieldsIf_run (.pointer (some ⟨w.heap.size, 2, none⟩)) rfl (fun w' => by go_simp)) T0 ?_
    go_simp
    refine wpAnyP_take (i := 3) rfl (by kernel_rfl) (by kernel_rfl) (by kernel_rfl) (by kernel_rfl) (fun _ _ _ h => h) (yieldsIf_load rfl rfl Tryz.underlying9 rfl rfl (fun w2 hT => box_at (box_below HBY.out hT) (j := 2) (u := .string e.sender) s2)) T0 ?_
    refine wpAnyP_take (i := 5) rfl (by kernel_rfl) (by kernel_rfl) (by kernel_rfl) (by kernel_rfl) (fun _ _ _ h => h) (yieldsIf_run (.pointer (some ⟨w.heap.size, 0, none⟩)) rfl (fun w' => by go_simp)) T0 ?_
    refine wpAnyP_take (i := 6) rfl (by kernel_rfl) (by kernel_rfl) (by kernel_rfl) (by kernel_rfl) (fun _ _ _ h => h) (yieldsIf_load rfl rfl Tryz.underlying3 rfl rfl (fun w2 hT => box_at (box_below HBY.out hT) (j := 0) (u := .int .i64 e.id) s0)) T0 ?_
    go_simp
    go_simp
    refine wpAnyP_oneQ (i := 4) (by kernel_rfl) rfl ?_
    go_wp2_with fail
    refine (CV _).mono ?_
    rintro x c1 ⟨rfl, hc1⟩
    have T1 := ext_trans T0 hc1
    go_wp2_with fail
    refine nextQ T1 ?_
    go_simp
    refine wpAnyP_take (i := 7) rfl (by kernel_rfl) (by kernel_rfl) (by kernel_rfl) (by kernel_rfl) (fun _ _ _ h => h) (yieldsIf_run (.agg #[.string pv, .int .i64 e.id]) rfl (fun w' => by go_simp)) T1 ?_
    refine wpAnyP_take (i := 8) rfl (by kernel_rfl) (by kernel_rfl) (by kernel_rfl) (by kernel_rfl) (fun _ _ _ h => h) (yieldsIf_run (.bool gb) rfl (fun w2 => by go_simp; rw [ite_sig, HG.out])) T1 ?_
    refine wpAnyP_take (i := 9) rfl (by kernel_rfl) (by kernel_rfl) (by kernel_rfl) (by kernel_rfl) (fun _ _ _ h => h) (yieldsIf_run (.bool gb) rfl (fun w' => by go_simp)) T1 ?_
    go_simp
    go_simp
    refine wpAnyP_done (by kernel_rfl) ?_
    cases gb
    all_goals
      go_wp2_with fail
      go_ret
      exact ⟨by rw [HF.out]; rfl, ext_trans KC (ext_trans hY T1)⟩
  case false =>
    refine wp_region_now (by kernel_rfl) ?_
    intro Y hY
    have T0 : Below Y.heap.size Y Y := ext_refl Y
    have HBY := hide (box_below HB1.out hY)
    refine wpAnyP_take (i := 0) rfl (by kernel_rfl) (by kernel_rfl) (by kernel_rfl) (by kernel_rfl) (fun _ _ _ h => h) (yieldsIf_loadS rfl (.tmp 1) rfl strcE ⟨w.heap.size, 0, none⟩ rfl cs HL.out (fun w2 hT => box_all (box_below HBY.out hT))) T0 ?_
    go_simp
    refine wpAnyP_oneQ (i := 1) (by kernel_rfl) rfl ?_
    go_wp2_with fail
    refine (CW _ (ext_trans KB (ext_trans hY T0))).mono ?_
    rintro x c1 ⟨rfl, hc1⟩
    have T1 := ext_trans T0 hc1
    go_wp2_with fail
    refine nextQ T1 ?_
    go_simp
    refine wpAnyP_take (i := 2) rfl (by kernel_rfl) (by kernel_rfl) (by kernel_rfl) (by kernel_rfl) (fun _ _ _ h => h) (yieldsIf_run (.bool true) rfl (fun w' => by go_simp)) T1 ?_
    refine wpAnyP_take (i := 3) rfl (by kernel_rfl) (by kernel_rfl) (by kernel_rfl) (by kernel_rfl) (fun _ _ _ h => h) (yieldsIf_run (.bool true) rfl (fun w' => by go_simp)) T1 ?_
    go_simp
    refine wpAnyP_take (i := 4) rfl (by kernel_rfl) (by kernel_rfl) (by kernel_rfl) (by kernel_rfl) (fun _ _ _ h => h) (yieldsIf_run (.pointer (some ⟨w.heap.size, 10, none⟩)) rfl (fun w' => by go_simp)) T1 ?_
    refine wpAnyP_take (i := 5) rfl (by kernel_rfl) (by kernel_rfl) (by kernel_rfl) (by kernel_rfl) (fun _ _ _ h => h) (yieldsIf_loadS rfl (.tmp 14) rfl strcC ⟨w.heap.size, 10, none⟩ rfl ((cs.drop 10).take 16) HLC.out (fun w2 hT => box_cells (box_below HBY.out hT) 10 16)) T1 ?_
    refine wpAnyP_take (i := 6) rfl (by kernel_rfl) (by kernel_rfl) (by kernel_rfl) (by kernel_rfl) (fun _ _ _ h => h) (yieldsIf_run (.pointer (some ⟨w.heap.size, 3, none⟩)) rfl (fun w' => by go_simp)) T1 ?_
    go_simp
    refine wpAnyP_take (i := 7) rfl (by kernel_rfl) (by kernel_rfl) (by kernel_rfl) (by kernel_rfl) (fun _ _ _ h => h) (yieldsIf_load rfl rfl Tryz.underlying23 rfl rfl (fun w2 hT => box_at (box_below HBY.out hT) (j := 3) (u := .int .i64 e.kind) s3)) T1 ?_
    refine wpAnyP_take (i := 8) rfl (by kernel_rfl) (by kernel_rfl) (by kernel_rfl) (by kernel_rfl) (fun _ _ _ h => h) (yieldsIf_run (.pointer (some ⟨w.heap.size, 10, none⟩)) rfl (fun w' => by go_simp)) T1 ?_
    refine wpAnyP_take (i := 9) rfl (by kernel_rfl) (by kernel_rfl) (by kernel_rfl) (by kernel_rfl) (fun _ _ _ h => h) (yieldsIf_loadS rfl (.tmp 18) rfl strcC ⟨w.heap.size, 10, none⟩ rfl ((cs.drop 10).take 16) HLC.out (fun w2 hT => box_cells (box_below HBY.out hT) 10 16)) T1 ?_
    go_simp
    go_simp
    refine wpAnyP_oneQ (i := 10) (by kernel_rfl) rfl ?_
    go_wp2_with fail
    refine (CT _ (ext_trans KB (ext_trans hY T1))).mono ?_
    rintro x c2 ⟨cs2, rfl, R2, hc2⟩
    have T2 := ext_trans T1 hc2
    go_wp2_with fail
    refine nextQ T2 ?_
    go_simp
    go_simp
    refine wpAnyP_oneQ (i := 11) (by kernel_rfl) rfl ?_
    go_wp2_with fail
    have CX3 := CSame_any (HR.out.con.ext (ext_trans KB (ext_trans hY T2))) R2 f1.out f2.out
    rw [HS.out] at CX3
    refine CX3.mono ?_
    rintro x c3 ⟨rfl, hc3⟩
    clear CX3
    have T3 := ext_trans T2 hc3
    go_wp2_with fail
    refine nextQ T3 ?_
    go_simp
    refine wpAnyP_take (i := 12) rfl (by kernel_rfl) (by kernel_rfl) (by kernel_rfl) (by kernel_rfl) (fun _ _ _ h => h) (yieldsIf_run (.bool (!sb)) rfl (fun w' => by go_simp)) T3 ?_
    refine wpAnyP_take (i := 13) rfl (by kernel_rfl) (by kernel_rfl) (by kernel_rfl) (by kernel_rfl) (fun _ _ _ h => h) (yieldsIf_run (.bool (!sb)) rfl (fun w' => by go_simp)) T3 ?_
    refine wpAnyP_take (i := 14) rfl (by kernel_rfl) (by kernel_rfl) (by kernel_rfl) (by kernel_rfl) (fun _ _ _ h => h) (yieldsIf_run (.bool (!sb)) rfl (fun w' => by go_simp)) T3 ?_
    go_simp
    go_simp
    refine wpAnyP_done (by kernel_rfl) ?_
    have KD := ext_trans KB (ext_trans hY T3)
    have HBD := hide (box_below HBY.out T3)
    clear hY T0 T1 T2 T3 R2
    cases sb
    case false =>
      have HF := hide (show E = 6 by rw [HV2.out]; exact if_pos rfl)
      go_wp2_with fail
      go_ret
      exact ⟨by rw [HF.out]; rfl, KD⟩
    have HV3 := hide (show E = if iv ≠ e.id then 11 else if (decide (e.server = pv) && decide (e.sum = e.id)) = false then 12 else 0 by rw [HV2.out]; exact if_neg (by simp))
    clear hnb nb
    go_upto_region 6 with fail
    refine wp_region_now (by kernel_rfl) ?_
    intro Y hY
    have T0 : Below Y.heap.size Y Y := ext_refl Y
    have HBY := hide (box_below HBD.out hY)
    refine wpAnyP_take (i := 0) rfl (by kernel_rfl) (by kernel_rfl) (by kernel_rfl) (by kernel_rfl) (fun _ _ _ h => h) (yieldsIf_loadS rfl (.tmp 1) rfl strcE ⟨w.heap.size, 0, none⟩ rfl cs HL.out (fun w2 hT => box_all (box_below HBY.out hT))) T0 ?_
    refine wpAnyP_take (i := 2) rfl (by kernel_rfl) (by kernel_rfl) (by kernel_rfl) (by kernel_rfl) (fun _ _ _ h => h) (yieldsIf_run (.pointer (some ⟨w.heap.size, 0, none⟩)) rfl (fun w' => by go_simp)) T0 ?_
    refine wpAnyP_take (i := 3) rfl (by kernel_rfl) (by kernel_rfl) (by kernel_rfl) (by kernel_rfl) (fun _ _ _ h => h) (yieldsIf_load rfl rfl Tryz.underlying3 rfl rfl (fun w2 hT => box_at (box_below HBY.out hT) (j := 0) (u := .int .i64 e.id) s0)) T0 ?_
    go_simp
    go_simp
    refine wpAnyP_oneQ (i := 1) (by kernel_rfl) rfl ?_
    go_wp2_with fail
    refine (CI _ (ext_trans KD (ext_trans hY T0))).mono ?_
    rintro x c1 ⟨rfl, hc1⟩
    have T1 := ext_trans T0 hc1
    go_wp2_with fail
    refine nextQ T1 ?_
    go_simp
    refine wpAnyP_take (i := 4) rfl (by kernel_rfl) (by kernel_rfl) (by kernel_rfl) (by kernel_rfl) (fun _ _ _ h => h) (yieldsIf_run (.bool (iv != e.id)) rfl (fun w' => by go_simp)) T1 ?_
    refine wpAnyP_take (i := 5) rfl (by kernel_rfl) (by kernel_rfl) (by kernel_rfl) (by kernel_rfl) (fun _ _ _ h => h) (yieldsIf_run (.bool (iv != e.id)) rfl (fun w' => by go_simp)) T1 ?_
    go_simp
    refine wpAnyP_done (by kernel_rfl) ?_
    have KC := ext_trans KD (ext_trans hY T1)
    have HBC := hide (box_below HBY.out T1)
    by_cases q : iv = e.id
    rotate_left
    · have q1 : (iv != e.id) = true := by simpa using q
      have HF := hide (show E = 11 by rw [HV3.out, if_pos q])
      simp only [q1]
      clear q
      go_wp2_with fail
      go_ret
      exact ⟨by rw [HF.out]; rfl, KC⟩
    have q1 : (iv != e.id) = false := by simpa using q
    have HV5 := hide (show E = if (decide (e.server = pv) && decide (e.sum = e.id)) = false then 12 else 0 by rw [HV3.out, if_neg (by simpa using q)])
    simp only [q1]
    clear q hY T0 T1
    go_upto_region 8 with fail
    obtain ⟨gb, hgb⟩ : ∃ b, (!(decide (e.server = pv) && decide (e.sum = e.id))) = b := ⟨_, rfl⟩
    have HG := hide hgb
    have HF := hide (show E = if gb = true then 12 else 0 by rw [HV5.out, ← hgb]; cases (decide (e.server = pv) && decide (e.sum = e.id)) <;> rfl)
    clear hgb
    refine wp_region_now (by kernel_rfl) ?_
    intro Y hY
    have T0 : Below Y.heap.size Y Y := ext_refl Y
    have HBY := hide (box_below HBC.out hY)
    refine wpAnyP_take (i := 0) rfl (by kernel_rfl) (by kernel_rfl) (by kernel_rfl) (by kernel_rfl) (fun _ _ _ h => h) (yieldsIf_run (.pointer (some ⟨w.heap.size, 27, none⟩)) rfl (fun w' => by go_simp)) T0 ?_
    refine wpAnyP_take (i := 1) rfl (by kernel_rfl) (by kernel_rfl) (by kernel_rfl) (by kernel_rfl) (fun _ _ _ h => h) (yieldsIf_loadS rfl (.tmp 31) rfl strcSig ⟨w.heap.size, 27, none⟩ rfl [.string e.server, .int .i64 e.sum] rfl (fun w2 hT => by have h := box_cells (box_below HBY.out hT) 27 2; rw [HQ.out] at h; exact h)) T0 ?_
    refine wpAnyP_take (i := 2) rfl (by kernel_rfl) (by kernel_rfl) (by kernel_rfl) (by kernel_rfl) (fun _ _ _ h => h) (yieldsIf_run (.pointer (some ⟨w.heap.size, 2, none⟩)) rfl (fun w' => by go_simp)) T0 ?_
    go_simp
    refine wpAnyP_take (i := 3) rfl (by kernel_rfl) (by kernel_rfl) (by kernel_rfl) (by kernel_rfl) (fun _ _ _ h => h) (yieldsIf_load rfl rfl Tryz.underlying9 rfl rfl (fun w2 hT => box_at (box_below HBY.out hT) (j := 2) (u := .string e.sender) s2)) T0 ?_
    refine wpAnyP_take (i := 5) rfl (by kernel_rfl) (by kernel_rfl) (by kernel_rfl) (by kernel_rfl) (fun _ _ _ h => h) (yieldsIf_run (.pointer (some ⟨w.heap.size, 0, none⟩)) rfl (fun w' => by go_simp)) T0 ?_
    refine wpAnyP_take (i := 6) rfl (by kernel_rfl) (by kernel_rfl) (by kernel_rfl) (by kernel_rfl) (fun _ _ _ h => h) (yieldsIf_load rfl rfl Tryz.underlying3 rfl rfl (fun w2 hT => box_at (box_below HBY.out hT) (j := 0) (u := .int .i64 e.id) s0)) T0 ?_
    go_simp
    go_simp
    refine wpAnyP_oneQ (i := 4) (by kernel_rfl) rfl ?_
    go_wp2_with fail
    refine (CV _).mono ?_
    rintro x c1 ⟨rfl, hc1⟩
    have T1 := ext_trans T0 hc1
    go_wp2_with fail
    refine nextQ T1 ?_
    go_simp
    refine wpAnyP_take (i := 7) rfl (by kernel_rfl) (by kernel_rfl) (by kernel_rfl) (by kernel_rfl) (fun _ _ _ h => h) (yieldsIf_run (.agg #[.string pv, .int .i64 e.id]) rfl (fun w' => by go_simp)) T1 ?_
    refine wpAnyP_take (i := 8) rfl (by kernel_rfl) (by kernel_rfl) (by kernel_rfl) (by kernel_rfl) (fun _ _ _ h => h) (yieldsIf_run (.bool gb) rfl (fun w2 => by go_simp; rw [ite_sig, HG.out])) T1 ?_
    refine wpAnyP_take (i := 9) rfl (by kernel_rfl) (by kernel_rfl) (by kernel_rfl) (by kernel_rfl) (fun _ _ _ h => h) (yieldsIf_run (.bool gb) rfl (fun w' => by go_simp)) T1 ?_
    go_simp
    go_simp
    refine wpAnyP_done (by kernel_rfl) ?_
    cases gb
    all_goals
      go_wp2_with fail
      go_ret
      exact ⟨by rw [HF.out]; rfl, ext_trans KC (ext_trans hY T1)⟩
set_option maxRecDepth 100000 in
set_option maxHeartbeats 4000000 in
theorem recE_good {e : Ev} (h : e.good) : (recE e).good := by unfold recE; split; exact h; exact h.strip
theorem strcEv29 {w : World} {S : Nat → Prop} {cs : List Value} {e : Ev} (h : EvR w S cs e) : cs.toArray.size = 29 := by rw [List.size_toArray]; exact h.length
def Ev.zero : Ev := ⟨0, ⟨#[]⟩, ⟨#[]⟩, 0, false, ⟨#[]⟩, 0, 0, [], [], Con.zero, 0, ⟨#[]⟩, 0⟩
theorem evZero_R (w : World) (S : Nat → Prop) : EvR w S evZero.toList Ev.zero := ⟨_, _, _, _, _, _, rfl, Slc.nil _ _ _, Slc.nil _ _ _, Slc.nil _ _ _, Slc.nil _ _ _, Slc.nil _ _ _, Slc.nil _ _ _⟩
section
variable {P : Program} {fn : Func} {R : Ending → World → Prop} {a : Act} {w : World} {t : TypeId} {z C : Array Value} {n : Nat} {p q : Tmp}
theorem bodyPost_cellQ (G : Strc P t z n) (hres : fn.results = #[.cell p t, .tmp q]) (g : Nat) (hp : a.tmps.getD p undef = .pointer (some ⟨g, 0, none⟩)) (u : Value) (hq : a.tmps.getD q undef = u) (hd : a.defers = []) (hg : w.heap[g]? = some (.cells C t (0, 0))) (hC : C.size = n)
    (hR : R (.returned (.tuple #[.agg C, u])) w) : bodyPost P fn R .ret a w := by
  obtain ⟨d, hu, hrow⟩ := G.row
  refine bodyPost_ret ?_ hd hR
  have hp' : a.tmps[p]?.getD undef = .pointer (some ⟨g, 0, none⟩) := by simpa using hp
  have hq' : a.tmps[q]?.getD undef = u := by simpa using hq
  have hl := run_loadVar_row w g t t C (0, 0) d hg hu (by cases d <;> simp_all) (by rw [G.size, hC])
  simp [results, hres, hp', hq', asAddr, hl]
end
/-- what Receive hands back -/
def RecV (S : Nat → Prop) (e : Ev) (w : World) (x : Ending) (w' : World) : Prop :=
  ∃ cs, x = .returned (.tuple #[.agg cs.toArray, .int .i64 (verE (recE e))]) ∧ EvR w' (fun b => S b ∨ w.heap.size ≤ b) cs (if verE (recE e) = 0 then recE e else Ev.zero) ∧ Below w.heap.size w w'
end
end Go.Proofs.YtmlnmcoophnlaaaGreat

/-
  content: users, kinds.
-/
import Derived.Test.YtmlnmcoophnlaaaGreatCkA
import Derived.BigQuiet
import Derived.Deep.DeepCutAuto
set_option linter.unusedVariables false
set_option linter.unusedSimpArgs false
namespace Go.Proofs.YtmlnmcoophnlaaaGreat
open Go.RowKit
section
attribute [local go_sem] Addr.add_mid
theorem two_at {w W : World} {b o : Nat} {u v : Value} (hb : Below w.heap.size w W) (hlt : b < w.heap.size) (h0 : w.cell? ⟨b, o, none⟩ = some u) (h1 : w.cell? ⟨b, o + 1, none⟩ = some v) : CellsAt W ⟨b, o, none⟩ [u, v] := fun j x hx => by
  rw [Addr.add_mid]
  match j, hx with
  | 0, hx => simp at hx; subst hx; exact (hb.cell hlt).trans h0
  | 1, hx => simp at hx; subst hx; exact (hb.cell hlt).trans h1
  | j + 2, hx => simp at hx
theorem strcU : Strc Tryz.prog 58 #[.string ⟨#[]⟩, .int .i64 0] 2 := ⟨⟨_, Tryz.underlying58, rfl⟩, by kernel_rfl, rfl⟩
theorem strcK : Strc Tryz.prog 82 #[.int .i64 0, .int .i64 0] 2 := ⟨⟨_, Tryz.underlying82, rfl⟩, by kernel_rfl, rfl⟩
theorem wrap_k (j : Nat) (h : j ≤ 1073741824) : IntKind.i64.wrap (j : Int) = (j : Int) := by
  simp [IntKind.wrap, IntKind.bits, IntKind.signed]; omega
theorem userF_no {p : Option (ByteArray × Int)} {x : ByteArray × Int} (h : userB x.1 = false) : userF p x = 3 := by unfold userF; rw [if_pos h]
theorem userF_out {p : Option (ByteArray × Int)} {x : ByteArray × Int} (h : userB x.1 = true) (ho : outB (p.map (·.1)) x.1 = true) : userF p x = 8 := by unfold userF; rw [if_neg (by rw [h]; simp), if_pos ho]
theorem userF_end {p : Option (ByteArray × Int)} {x : ByteArray × Int} (h : userB x.1 = true) (ho : outB (p.map (·.1)) x.1 = false) : userF p x = if highB x.2 = true then 2 else 0 := by unfold userF; rw [if_neg (by rw [h]; simp), if_neg (by rw [ho]; simp)]
theorem kindF_no {p : Option (Int × Int)} {x : Int × Int} (h : knownB x.1 = false) : kindF p x = 1 := by unfold kindF; rw [if_pos h]
theorem kindF_out {p : Option (Int × Int)} {x : Int × Int} (h : knownB x.1 = true) (ho : outI (p.map (·.1)) x.1 = true) : kindF p x = 8 := by unfold kindF; rw [if_neg (by rw [h]; simp), if_pos ho]
theorem kindF_end {p : Option (Int × Int)} {x : Int × Int} (h : knownB x.1 = true) (ho : outI (p.map (·.1)) x.1 = false) : kindF p x = if highB x.2 = true then 2 else 0 := by unfold kindF; rw [if_neg (by rw [h]; simp), if_neg (by rw [ho]; simp)]
set_option maxRecDepth 100000 in
set_option maxHeartbeats 1600000 in
theorem Cusers_any (A : Option Addr) (c : Nat) (l : List (ByteArray × Int)) (w : World) (hr : Row w w.heap.size A (ucs l)) (hl : l.length ≤ 1073741824) (hs : ∀ x ∈ l, x.1.size ≤ 1073741824) :
    Calls Tryz.prog 169 #[.slice A l.length c] w (Errs (usersE l) w) := by
  by_cases h100 : 100 < l.length
  · have HV := hide (show usersE l = 7 from if_pos h100)
    go_enter Tryz.func169, Tryz.ntmps169
    go_wp2_with fail
    go_ret
    exact ⟨by rw [HV.out]; rfl, ext_refl _⟩
  have HV := hide (show usersE l = firstE userF none l from if_neg h100)
  have HS := hide hs
  clear hs
  go_enter Tryz.func169, Tryz.ntmps169
  go_wp2_with fail
  go_loopw [10] (fun i wr => ∃ k : Nat, k ≤ l.length ∧ i = .int .i64 (k : Int) ∧ Hid (FE userF l k) ∧ Below w.heap.size w wr) (fun i _ => l.length - (intOf i).toNat)
  case atStart => exact ⟨0, Nat.zero_le _, rfl, FE.start, ext_refl w⟩
  case round =>
  obtain ⟨k, hk, rfl, HK, hbel⟩ := hrel
  by_cases hlt : k < l.length
  · obtain ⟨b, o, rfl, hb, hc⟩ := hr.fix (ucs_get l k hlt).1
    have hcr : CellsAt wr ⟨b, o + k * 2, none⟩ [.string l[k].1, .int .i64 l[k].2] := two_at hbel hb (hc _ _ (ucs_get l k hlt).1) (cell_assoc (hc _ _ (ucs_get l k hlt).2))
    obtain ⟨x, hx⟩ : ∃ x, x = l[k] := ⟨_, rfl⟩
    have HX := hide hx
    rw [← hx] at hcr
    have hsu : x.1.size ≤ 1073741824 := by rw [hx]; exact HS.out _ (List.getElem_mem hlt)
    have HCS := hide hc
    clear hc hx
    obtain ⟨x1, x2⟩ := x
    dsimp only at hcr hsu
    go_upto_region 6 with (refine wpList_loadS rfl (.tmp 13) rfl strcU ⟨b, o + k * 2, none⟩ rfl [.string x1, .int .i64 x2] rfl hcr ?_)
    change Code.wp _ _ _ _ (wr.alloc (.cells #[.string x1, .int .i64 x2] 58))
    have B := heap_alloc_new wr (.cells #[.string x1, .int .i64 x2] 58)
    have hbX := ext_alloc hbel (.cells #[.string x1, .int .i64 x2] 58)
    generalize wr.alloc (.cells #[.string x1, .int .i64 x2] 58) = X at B hbX ⊢
    obtain ⟨g4, hg4⟩ : ∃ g4, wr.heap.size = g4 := ⟨_, rfl⟩
    rw [hg4] at B ⊢
    clear hg4 hcr hbel
    have r0 : X.cell? ⟨g4, 0, none⟩ = some (.string x1) := box_at B rfl
    have r1 : X.cell? ⟨g4, 1, none⟩ = some (.int .i64 x2) := box_at B rfl
    have CU := fun W => ids_User x1 W (by have : x1.size ≤ 1073741824 := hsu; omega)
    obtain ⟨ub, hub⟩ : ∃ ub, userB x1 = ub := ⟨_, rfl⟩
    have hub2 : (splitL [64] x1.data.toList).isSome = ub := hub
    simp only [hub2] at CU
    clear hub2
    cases ub with
    | false =>
      simp only [errN, Bool.false_eq_true, if_false] at CU
      have HE := hide (HK.out.err (e := 3) hlt (by rw [← HX.out]; exact userF_no hub) (by decide))
      clear hub
      go_wp2_with (go_at_call 101; refine (CU _).mono ?_; rintro e w2 ⟨rfl, hb2⟩)
      go_ret
      exact ⟨by rw [HV.out, HE.out]; rfl, (ext_trans hbX hb2)⟩
    | true =>
      simp only [errN, if_true] at CU
      have CH := fun W => high_any x2 W
      obtain ⟨hb3, hh⟩ : ∃ hb3, highB x2 = hb3 := ⟨_, rfl⟩
      simp only [hh] at CH
      rcases Nat.eq_zero_or_pos k with rfl | hpos
      · have HF := hide (userF_end (p := prevA l 0) (x := (x1, x2)) hub (by rfl))
        try simp only [Nat.zero_mul, Nat.add_zero] at r0 r1
        clear hub
        go_wp2_with (go_at_call 101; refine (CU _).mono ?_; rintro e w2 ⟨rfl, hb2⟩; have B2 := box_below B hb2; have p0 : w2.cell? ⟨g4, 0, none⟩ = some (.string x1) := box_at B2 rfl; have p1 : w2.cell? ⟨g4, 1, none⟩ = some (.int .i64 x2) := box_at B2 rfl)
        go_quiet (fail)
        cases hb3 with
        | false =>
          have HN := hide (HK.out.next hlt (by rw [← HX.out, HF.out]; show (if highB x2 = true then (2 : Int) else 0) = 0; rw [hh]; rfl))
          clear hh
          go_wp2_with (go_at_call 171; refine (CH _).mono ?_; rintro e w3 ⟨rfl, hw3⟩; rw [hw3]; clear hw3 w3)
          go_roundw
          case rel => exact ⟨0 + 1, by omega, by go_num, HN.out, below_drewN (ext_trans hbX hb2) _⟩
          case measure => (simp [intOf]; try omega)
        | true =>
          have HE := hide (HK.out.err (e := 2) hlt (by rw [← HX.out, HF.out]; show (if highB x2 = true then (2 : Int) else 0) = 2; rw [hh]; rfl) (by decide))
          clear hh
          go_wp2_with (go_at_call 171; refine (CH _).mono ?_; rintro e w3 ⟨rfl, hw3⟩; rw [hw3]; clear hw3 w3)
          go_ret
          exact ⟨by rw [HV.out, HE.out]; rfl, below_drewN (ext_trans hbX hb2) _⟩
      · obtain ⟨j, rfl⟩ : ∃ j, k = j + 1 := ⟨k - 1, by omega⟩
        have hj : j < l.length := by omega
        have hprev := prev_succ hj
        obtain ⟨y, hy⟩ : ∃ y, y = l[j] := ⟨_, rfl⟩
        have hq := HCS.out _ _ (ucs_get l j hj).1
        rw [← hy] at hprev hq
        clear hy
        obtain ⟨y1, y2⟩ := y
        have HPREV := hide hprev
        have HQ := hide hq
        have hwr := wrap_k j (by omega)
        clear hprev hq
        go_wp2_with (go_at_call 101; refine (CU _).mono ?_; rintro e w2 ⟨rfl, hb2⟩; have B2 := box_below B hb2; have p0 : w2.cell? ⟨g4, 0, none⟩ = some (.string x1) := box_at B2 rfl; have p1 : w2.cell? ⟨g4, 1, none⟩ = some (.int .i64 x2) := box_at B2 rfl; have q0 : w2.cell? ⟨b, o + j * 2, none⟩ = some (.string y1) := (Below.cell (ext_trans hbX hb2) hb).trans HQ.out)
        obtain ⟨s1, h1⟩ : ∃ s, Op.bytesLess x1.toList y1.toList = s := ⟨_, rfl⟩
        obtain ⟨s2, h2⟩ : ∃ s, (x1.toList == y1.toList) = s := ⟨_, rfl⟩
        have ho : outB ((prevA l (j + 1)).map (·.1)) x1 = (s1 || s2) := by rw [HPREV.out, ← h1, ← h2]; rfl
        have HO := hide ho
        clear ho
        cases s1 with
        | true =>
          have HE := hide (HK.out.err (e := 8) hlt (by rw [← HX.out]; exact userF_out hub (HO.out.trans rfl)) (by decide))
          clear hub hh
          go_quiet (fail)
          go_wp2_with fail
          go_ret
          exact ⟨by rw [HV.out, HE.out]; rfl, below_drewN (ext_trans hbX hb2) _⟩
        | false =>
          cases s2 with
          | true =>
            have HE := hide (HK.out.err (e := 8) hlt (by rw [← HX.out]; exact userF_out hub (HO.out.trans rfl)) (by decide))
            clear hub hh
            go_quiet (fail)
            go_wp2_with fail
            go_ret
            exact ⟨by rw [HV.out, HE.out]; rfl, below_drewN (ext_trans hbX hb2) _⟩
          | false =>
            have HF := hide (userF_end (p := prevA l (j + 1)) (x := (x1, x2)) hub (HO.out.trans rfl))
            clear hub
            go_quiet (fail)
            cases hb3 with
            | false =>
              have HN := hide (HK.out.next hlt (by rw [← HX.out, HF.out]; show (if highB x2 = true then (2 : Int) else 0) = 0; rw [hh]; rfl))
              clear hh
              go_wp2_with (go_at_call 171; refine (CH _).mono ?_; rintro e w3 ⟨rfl, hw3⟩; rw [hw3]; clear hw3 w3)
              go_roundw
              case rel => exact ⟨j + 1 + 1, by omega, by go_num, HN.out, below_drewN (ext_trans hbX hb2) _⟩
              case measure => (simp [intOf]; try omega)
            | true =>
              have HE := hide (HK.out.err (e := 2) hlt (by rw [← HX.out, HF.out]; show (if highB x2 = true then (2 : Int) else 0) = 2; rw [hh]; rfl) (by decide))
              clear hh
              go_wp2_with (go_at_call 171; refine (CH _).mono ?_; rintro e w3 ⟨rfl, hw3⟩; rw [hw3]; clear hw3 w3)
              go_ret
              exact ⟨by rw [HV.out, HE.out]; rfl, below_drewN (ext_trans hbX hb2) _⟩
  · obtain rfl : k = l.length := by omega
    have HF := hide HK.out.fin
    go_wp2_with fail
    go_ret
    exact ⟨by rw [HV.out, HF.out]; rfl, hbel⟩
set_option maxRecDepth 100000 in
set_option maxHeartbeats 1600000 in
theorem Ckinds_any (A : Option Addr) (c : Nat) (l : List (Int × Int)) (w : World) (hr : Row w w.heap.size A (kcs l)) (hl : l.length ≤ 1073741824) :
    Calls Tryz.prog 170 #[.slice A l.length c] w (Errs (kindsE l) w) := by
  by_cases h100 : 100 < l.length
  · have HV := hide (show kindsE l = 7 from if_pos h100)
    go_enter Tryz.func170, Tryz.ntmps170
    go_wp2_with fail
    go_ret
    exact ⟨by rw [HV.out]; rfl, ext_refl _⟩
  have HV := hide (show kindsE l = firstE kindF none l from if_neg h100)
  go_enter Tryz.func170, Tryz.ntmps170
  go_wp2_with fail
  go_loopw [10] (fun i wr => ∃ k : Nat, k ≤ l.length ∧ i = .int .i64 (k : Int) ∧ Hid (FE kindF l k) ∧ Below w.heap.size w wr) (fun i _ => l.length - (intOf i).toNat)
  case atStart => exact ⟨0, Nat.zero_le _, rfl, FE.start, ext_refl w⟩
  case round =>
  obtain ⟨k, hk, rfl, HK, hbel⟩ := hrel
  by_cases hlt : k < l.length
  · obtain ⟨b, o, rfl, hb, hc⟩ := hr.fix (kcs_get l k hlt).1
    have hcr : CellsAt wr ⟨b, o + k * 2, none⟩ [.int .i64 l[k].1, .int .i64 l[k].2] := two_at hbel hb (hc _ _ (kcs_get l k hlt).1) (cell_assoc (hc _ _ (kcs_get l k hlt).2))
    obtain ⟨x, hx⟩ : ∃ x, x = l[k] := ⟨_, rfl⟩
    have HX := hide hx
    rw [← hx] at hcr
    have HCS := hide hc
    clear hc hx
    obtain ⟨x1, x2⟩ := x
    dsimp only at hcr
    go_upto_region 6 with (refine wpList_loadS rfl (.tmp 13) rfl strcK ⟨b, o + k * 2, none⟩ rfl [.int .i64 x1, .int .i64 x2] rfl hcr ?_)
    change Code.wp _ _ _ _ (wr.alloc (.cells #[.int .i64 x1, .int .i64 x2] 82))
    have B := heap_alloc_new wr (.cells #[.int .i64 x1, .int .i64 x2] 82)
    have hbX := ext_alloc hbel (.cells #[.int .i64 x1, .int .i64 x2] 82)
    generalize wr.alloc (.cells #[.int .i64 x1, .int .i64 x2] 82) = X at B hbX ⊢
    obtain ⟨g4, hg4⟩ : ∃ g4, wr.heap.size = g4 := ⟨_, rfl⟩
    rw [hg4] at B ⊢
    clear hg4 hcr hbel
    have r0 : X.cell? ⟨g4, 0, none⟩ = some (.int .i64 x1) := box_at B rfl
    have r1 : X.cell? ⟨g4, 1, none⟩ = some (.int .i64 x2) := box_at B rfl
    have CU := fun W => known_any x1 W
    obtain ⟨ub, hub⟩ : ∃ ub, knownB x1 = ub := ⟨_, rfl⟩
    simp only [hub] at CU
    cases ub with
    | false =>
      have HE := hide (HK.out.err (e := 1) hlt (by rw [← HX.out]; exact kindF_no hub) (by decide))
      clear hub
      go_wp2_with (go_at_call 104; refine (CU _).mono ?_; rintro e w2 ⟨rfl, hw2⟩; rw [hw2]; clear hw2 w2)
      go_ret
      exact ⟨by rw [HV.out, HE.out]; rfl, hbX⟩
    | true =>
      have CH := fun W => high_any x2 W
      obtain ⟨hb3, hh⟩ : ∃ hb3, highB x2 = hb3 := ⟨_, rfl⟩
      simp only [hh] at CH
      rcases Nat.eq_zero_or_pos k with rfl | hpos
      · have HF := hide (kindF_end (p := prevA l 0) (x := (x1, x2)) hub (by rfl))
        try simp only [Nat.zero_mul, Nat.add_zero] at r0 r1
        clear hub
        go_wp2_with (go_at_call 104; refine (CU _).mono ?_; rintro e w2 ⟨rfl, hw2⟩; rw [hw2]; clear hw2 w2)
        go_quiet (fail)
        cases hb3 with
        | false =>
          have HN := hide (HK.out.next hlt (by rw [← HX.out, HF.out]; show (if highB x2 = true then (2 : Int) else 0) = 0; rw [hh]; rfl))
          clear hh
          go_wp2_with (go_at_call 171; refine (CH _).mono ?_; rintro e w3 ⟨rfl, hw3⟩; rw [hw3]; clear hw3 w3)
          go_roundw
          case rel => exact ⟨0 + 1, by omega, by go_num, HN.out, below_drewN hbX _⟩
          case measure => (simp [intOf]; try omega)
        | true =>
          have HE := hide (HK.out.err (e := 2) hlt (by rw [← HX.out, HF.out]; show (if highB x2 = true then (2 : Int) else 0) = 2; rw [hh]; rfl) (by decide))
          clear hh
          go_wp2_with (go_at_call 171; refine (CH _).mono ?_; rintro e w3 ⟨rfl, hw3⟩; rw [hw3]; clear hw3 w3)
          go_ret
          exact ⟨by rw [HV.out, HE.out]; rfl, below_drewN hbX _⟩
      · obtain ⟨j, rfl⟩ : ∃ j, k = j + 1 := ⟨k - 1, by omega⟩
        have hj : j < l.length := by omega
        have hprev := prev_succ hj
        obtain ⟨y, hy⟩ : ∃ y, y = l[j] := ⟨_, rfl⟩
        have hq := HCS.out _ _ (kcs_get l j hj).1
        rw [← hy] at hprev hq
        clear hy
        obtain ⟨y1, y2⟩ := y
        have HPREV := hide hprev
        have HQ := hide hq
        have hwr := wrap_k j (by omega)
        clear hprev hq
        go_wp2_with (go_at_call 104; refine (CU _).mono ?_; rintro e w2 ⟨rfl, hw2⟩; rw [hw2]; clear hw2 w2; have q0 : X.cell? ⟨b, o + j * 2, none⟩ = some (.int .i64 y1) := (Below.cell hbX hb).trans HQ.out)
        obtain ⟨s1, h1⟩ : ∃ s, decide (x1 ≤ y1) = s := ⟨_, rfl⟩
        have ho : outI ((prevA l (j + 1)).map (·.1)) x1 = s1 := by rw [HPREV.out, ← h1]; rfl
        have HO := hide ho
        clear ho
        cases s1 with
        | true =>
          have HE := hide (HK.out.err (e := 8) hlt (by rw [← HX.out]; exact kindF_out hub (HO.out.trans rfl)) (by decide))
          clear hub hh
          go_quiet (fail)
          go_wp2_with fail
          go_ret
          exact ⟨by rw [HV.out, HE.out]; rfl, below_drewN hbX _⟩
        | false =>
          have HF := hide (kindF_end (p := prevA l (j + 1)) (x := (x1, x2)) hub (HO.out.trans rfl))
          clear hub
          go_quiet (fail)
          cases hb3 with
          | false =>
            have HN := hide (HK.out.next hlt (by rw [← HX.out, HF.out]; show (if highB x2 = true then (2 : Int) else 0) = 0; rw [hh]; rfl))
            clear hh
            go_wp2_with (go_at_call 171; refine (CH _).mono ?_; rintro e w3 ⟨rfl, hw3⟩; rw [hw3]; clear hw3 w3)
            go_roundw
            case rel => exact ⟨j + 1 + 1, by omega, by go_num, HN.out, below_drewN hbX _⟩
            case measure => (simp [intOf]; try omega)
          | true =>
            have HE := hide (HK.out.err (e := 2) hlt (by rw [← HX.out, HF.out]; show (if highB x2 = true then (2 : Int) else 0) = 2; rw [hh]; rfl) (by decide))
            clear hh
            go_wp2_with (go_at_call 171; refine (CH _).mono ?_; rintro e w3 ⟨rfl, hw3⟩; rw [hw3]; clear hw3 w3)
            go_ret
            exact ⟨by rw [HV.out, HE.out]; rfl, below_drewN hbX _⟩
  · obtain rfl : k = l.length := by omega
    have HF := hide HK.out.fin
    go_wp2_with fail
    go_ret
    exact ⟨by rw [HV.out, HF.out]; rfl, hbel⟩
end
end Go.Proofs.YtmlnmcoophnlaaaGreat

/-
  fedchatref05: GetText, GetInts, GetTexts, GetBool.
  fedchatref05: GetBool; and each Get function by one contract for every argument.
-/
import Derived.Test.YtnfbmhkjmkdmjaaGreatRefGet
import Derived.Test.YtnfbmhkjmkdmjaaGreatElems
import Derived.Test.YtnfbmhkjmkdmjaaGreatDec
import Derived.Deep.QuietTactic
import Derived.BigQuiet
import Derived.Test.YtnfbmhkjmkdmjaaGreatAny
set_option linter.unusedVariables false
set_option linter.unusedSimpArgs false
set_option linter.unusedSectionVars false
namespace Go.Proofs.YtnfbmhkjmkdmjaaGreat
section
open Go.RowKit

theorem RGetInt_none {B : Nat} {A : Option Addr} {n c : Nat} {l : List UInt8} {w : World} (hr : Row w B A (bvs l)) (hn : l.length = n) (hc : n ≤ c) (hl : n ≤ 16777216) (h : geti l = none) :
    Calls Tryz.prog 76 #[.slice A n c] w (RGot B (.int .i64 0) [] false w) := by
  subst hn
  exact (RGetInt_any B A c l w hr hc hl).mono fun e w' h' => by unfold RGotI at h'; rw [h] at h'; exact h'
theorem RGetInt_some {B : Nat} {A : Option Addr} {n c : Nat} {l : List UInt8} {w : World} (hr : Row w B A (bvs l)) (hn : l.length = n) (hc : n ≤ c) (hl : n ≤ 16777216) {x : Int} {k : Nat} (h : geti l = some (x, k)) :
    Calls Tryz.prog 76 #[.slice A n c] w (RGot B (.int .i64 x) (l.drop k) true w) := by
  subst hn
  exact (RGetInt_any B A c l w hr hc hl).mono fun e w' h' => by unfold RGotI at h'; rw [h] at h'; exact h'

set_option maxRecDepth 100000 in
set_option maxHeartbeats 1600000 in
theorem RGetText_none {B : Nat} {A : Option Addr} {n c : Nat} {l : List UInt8} {w : World} (hr : Row w B A (bvs l)) (hn : l.length = n) (hc : n ≤ c) (hl : n ≤ 16777216) (h : getw l = none) :
    Calls Tryz.prog 74 #[.slice A n c] w (RGot B (.string (str [])) [] false w) := by
  subst hn
  cases hg : geti l with
  | none =>
    have HC := hide (RGetInt_none (c := c) hr rfl hc hl hg)
    clear h hg
    go_enter Tryz.func74, Tryz.ntmps74
    go_wp2_with fail
    refine HC.out.mono ?_
    rintro e w1 ⟨A1, c1, rfl, hr1, hc1, hb1⟩
    go_wp2_with fail
    go_ret3
    exact ⟨none, 0, rfl, Row.nil, Nat.le_refl _, hb1⟩
  | some p =>
    obtain ⟨x, k⟩ := p
    have hk := (geti_bounds hg).1
    have hbad : x < 0 ∨ ((l.length - k : Nat) : Int) < x := Decidable.byContradiction fun hb => by rw [getw_some hg hb] at h; cases h
    have HC := hide (RGetInt_some (c := c) hr rfl hc hl hg)
    clear h hg
    by_cases hx : x < 0
    · clear hbad
      go_enter Tryz.func74, Tryz.ntmps74
      go_wp2_with fail
      refine HC.out.mono ?_
      rintro e w1 ⟨A1, c1, rfl, hr1, hc1, hb1⟩
      go_wp2_with fail
      go_ret3
      exact ⟨none, 0, rfl, Row.nil, Nat.le_refl _, hb1⟩
    · have hbig : ((l.length - k : Nat) : Int) < x := by omega
      clear hbad
      go_enter Tryz.func74, Tryz.ntmps74
      go_wp2_with fail
      refine HC.out.mono ?_
      rintro e w1 ⟨A1, c1, rfl, hr1, hc1, hb1⟩
      rw [List.length_drop]
      go_wp2_with fail
      go_ret3
      exact ⟨none, 0, rfl, Row.nil, Nat.le_refl _, hb1⟩

set_option maxRecDepth 100000 in
set_option maxHeartbeats 1600000 in
theorem RGetText_some {B : Nat} {A : Option Addr} {n c : Nat} {l : List UInt8} {w : World} (hr : Row w B A (bvs l)) (hn : l.length = n) (hc : n ≤ c) (hl : n ≤ 16777216) {s : List UInt8} {q : Nat} (h : getw l = some (s, q)) :
    Calls Tryz.prog 74 #[.slice A n c] w (RGot B (.string (str s)) (l.drop q) true w) := by
  subst hn
  cases hg : geti l with
  | none => rw [getw_none hg] at h; cases h
  | some p =>
    obtain ⟨x, k⟩ := p
    have hk := (geti_bounds hg).1
    have hgood : ¬ (x < 0 ∨ ((l.length - k : Nat) : Int) < x) := fun hb => by rw [getw_bad hg hb] at h; cases h
    rw [getw_some hg hgood] at h
    simp only [Option.some.injEq, Prod.mk.injEq] at h
    obtain ⟨rfl, rfl⟩ := h
    have HC := hide (RGetInt_some (c := c) hr rfl hc hl hg)
    obtain ⟨m, rfl⟩ := Int.eq_ofNat_of_zero_le (show 0 ≤ x by omega)
    have hm : (m : Int) ≤ ((l.length - k : Nat) : Int) := by omega
    rw [Int.toNat_natCast, ← List.drop_drop]
    obtain ⟨ld, hld, HLD⟩ := named (l.drop k)
    have hldl : ld.length = l.length - k := by rw [hld, List.length_drop]
    have HLL := hide hldl
    have hld1 : ld.length ≤ 16777216 := by omega
    have hm' : (m : Int) ≤ (ld.length : Int) := by omega
    rw [← hld] at HC ⊢
    clear hgood hg hld hldl hm
    go_enter Tryz.func74, Tryz.ntmps74
    go_wp2_with fail
    refine HC.out.mono ?_
    rintro e w1 ⟨A1, c1, rfl, hr1, hc1, hb1⟩
    have hrun1 := run_head elemB A1 ld.length c1 m (by omega)
    have hrun2 := run_cut elemB A1 ld.length c1 m (by omega)
    have hr' : Row w1 B A1 (bvs (ld.take m)) := by have := hr1.take m; rwa [show (bvs ld).take m = bvs (ld.take m) from by simp [bvs]] at this
    have hr'' : Row w1 B (cutA A1 c1 m 1) (bvs (ld.drop m)) := by
      have := hr1.cutA (size := 1) (k := m) (c := c1) (by simp [bvs]) hc1
      rwa [show (bvs ld).drop (m * 1) = bvs (ld.drop m) from by simp [bvs]] at this
    have hlm : (ld.take m).length = m := by rw [List.length_take]; omega
    have hconv := fun nn : Nat => run_string (P := Tryz.prog) (w1.drewN nn) 48 9 5 Tryz.underlying48 Tryz.underlying5 Tryz.underlying9 (c := c1) (B := B) (l := ld.take m) hr' hlm (fun h => by rw [← hlm]; exact row_none hr' h)
    obtain ⟨s0, hs0, HS0⟩ := named (ld.take m)
    rw [← hs0] at hconv
    rw [← hs0]
    clear hs0 hr' hlm
    go_wp2_with fail
    go_quiet (fail)
    go_wp2_with fail
    go_ret3
    exact ⟨cutA A1 c1 m 1, c1 - m, by rw [List.length_drop, ← HS0.out]; rfl, hr'', by rw [List.length_drop]; omega, below_drewN hb1 _⟩

/-- a row of the call's own, bytes in the argument's memory, and a bool -/
def RGot2 (B : Nat) (te : TypeId) (first : List Value) (rest : List UInt8) (ok : Bool) (w : World) (e : Ending) (w' : World) : Prop :=
  ∃ v A c, e = .returned (.tuple #[v, .slice A rest.length c, .bool ok]) ∧ w'.ownsRow w.heap.size te 1 v first.length first ∧ Row w' B A (bvs rest) ∧ rest.length ≤ c ∧ Below w.heap.size w w'

set_option maxRecDepth 100000 in
set_option maxHeartbeats 1600000 in
theorem RGetInts_none {B : Nat} {A : Option Addr} {c : Nat} {l : List UInt8} {w : World} (hB : B ≤ w.heap.size) (hr : Row w B A (bvs l)) (hc : l.length ≤ c) (hl : l.length ≤ 16777216) (h : getL geti l = none) :
    Calls Tryz.prog 139 #[.slice A l.length c] w (RGot2 B 3 [] [] false w) := by
  cases hg : geti l with
  | none =>
    have HC := hide (RGetInt_none (c := c) hr rfl hc hl hg)
    clear h hg
    go_enter Tryz.func139, Tryz.ntmps139
    go_wp2_with fail
    refine HC.out.mono ?_
    rintro e w1 ⟨A1, c1, rfl, hr1, hc1, hb1⟩
    go_wp2_with fail
    go_ret3
    exact ⟨_, none, 0, rfl, World.ownsRow_nil _ _ _ _, Row.nil, Nat.le_refl _, hb1⟩
  | some p =>
    obtain ⟨x, k⟩ := p
    have hk := (geti_bounds hg).1
    have HC := hide (RGetInt_some (c := c) hr rfl hc hl hg)
    by_cases hx : x < 0
    · clear h hg
      go_enter Tryz.func139, Tryz.ntmps139
      go_wp2_with fail
      refine HC.out.mono ?_
      rintro e w1 ⟨A1, c1, rfl, hr1, hc1, hb1⟩
      go_wp2_with fail
      go_ret3
      exact ⟨_, none, 0, rfl, World.ownsRow_nil _ _ _ _, Row.nil, Nat.le_refl _, hb1⟩
    · obtain ⟨m, rfl⟩ := Int.eq_ofNat_of_zero_le (show 0 ≤ x by omega)
      by_cases hbig : ((l.length - k : Nat) : Int) < m
      · clear h hg
        go_enter Tryz.func139, Tryz.ntmps139
        go_wp2_with fail
        refine HC.out.mono ?_
        rintro e w1 ⟨A1, c1, rfl, hr1, hc1, hb1⟩
        rw [List.length_drop]
        go_wp2_with fail
        go_ret3
        exact ⟨_, none, 0, rfl, World.ownsRow_nil _ _ _ _, Row.nil, Nat.le_refl _, hb1⟩
      · have hm : m ≤ l.length - k := by omega
        have hstop : elemsGo geti m (l.drop k) = none := by
          cases hq : elemsGo geti m (l.drop k) with
          | none => rfl
          | some q =>
            have hh := getL_some (g := geti) (ys := q.1) (p := k + q.2) hg (by omega) (by omega) (by rw [Int.toNat_natCast, hq]; simp)
            rw [hh] at h; cases h
        have HS := hide hstop
        clear h hg hstop
        have hm' : (m : Int) ≤ ((l.length - k : Nat) : Int) := by omega
        have hd1 : decide ((m : Int) < 0) = false := decide_eq_false (by omega)
        have hd2 : decide (l.length - k < m) = false := decide_eq_false (by omega)
        go_enter Tryz.func139, Tryz.ntmps139
        go_wp2_with fail
        refine HC.out.mono ?_
        rintro e w1 ⟨A1, c1, rfl, hr1, hc1, hb1⟩
        clear HC
        rw [List.length_drop] at hc1 ⊢
        go_wp2_with fail
        go_loopw [6, 8, 9] (fun b v i wr => ∃ (j q : Nat) (ys : List Int) (A2 : Option Addr) (c2 : Nat), j ≤ m ∧ i = .int .i64 (j : Int) ∧ b = .slice A2 (l.length - q) c2 ∧ Row wr B A2 (bvs (l.drop q)) ∧ l.length - q ≤ c2 ∧ ElRel geti l m k j ys q ∧ wr.ownsRow w.heap.size 3 1 v ys.length (ivs ys) ∧ Below w.heap.size w wr)
          (fun _ _ i _ => m - (intOf i).toNat)
        case atStart => exact ⟨0, k, [], A1, c1, Nat.zero_le _, rfl, rfl, hr1, hc1, ElRel.start hk, World.ownsRow_nil _ _ _ _, hb1⟩
        case round =>
          obtain ⟨j, q, ys, A2, c2, hj, rfl, rfl, hr2, hc2, hel, hown, hnx⟩ := hrel
          have HE := hide hel; clear hel
          by_cases hlt : j < m
          · have hq := HE.out.2.1
            have hys := HE.out.1
            have HYS := hide hys; clear hys
            have hyl : ys.length ≤ 16777216 := by rw [HYS.out]; omega
            have hr2' := hr2.more (Nat.le_trans hB hnx.size)
            cases hg : geti (l.drop q) with
            | none =>
              have HC := hide (RGetInt_none (B := B) (n := l.length - q) (c := c2) hr2 (by simp) hc2 (by omega) hg)
              clear hg
              go_wp2_with fail
              refine HC.out.mono ?_
              rintro e w2 ⟨A3, c3, rfl, hr3, hc3, hb2⟩
              go_wp2_with fail
              go_ret3
              exact ⟨_, none, 0, rfl, World.ownsRow_nil _ _ _ _, Row.nil, Nat.le_refl _, (hnx.trans (hb2.mono hnx.size))⟩
            | some pr =>
              obtain ⟨x, kk⟩ := pr
              have hkk := (geti_bounds hg).1
              rw [List.length_drop] at hkk
              have hstep := HE.out.step hlt hg hkk
              have HSTEP := hide hstep
              have hfr : Row wr B A2 (bvs (l.drop q)) := hr2
              have HC := hide (RGetInt_some (B := B) (n := l.length - q) (c := c2) hr2 (by simp) hc2 (by omega) hg)
              clear hg hstep
              go_wp2_with fail
              refine HC.out.mono ?_
              rintro e w2 ⟨A3, c3, rfl, hr3, hc3, hb2⟩
              replace hown := own_below hown hb2
              replace hnx := hnx.trans (hb2.mono hnx.size)
              rw [List.drop_drop] at hr3 hc3 ⊢
              rw [List.length_drop] at hc3 ⊢
              go_wp2_with (first | (at_builtin; go_must (refine wpList_append_new rfl _ _ rfl elemI w.heap.size _ _ _ rfl hown 1 _ rfl rfl (by simp [Value.oneCell']) (by decide) (by unfold maxLen; omega) (by omega) hnx.size ?_)))
              intro v3 w3 hown3 hgrow3
              have hb3 := below_of_own hnx hown hgrow3 hnx.size (Nat.le_refl _)
              have hr3' : Row w3 B A3 (bvs (l.drop (q + kk))) := hr3.grown hgrow3 (Nat.le_trans hB hnx.size) fun b hb => Nat.le_trans hB (hown.lt b hb).1
              clear HC hr3
              go_wp2_with fail
              go_roundw
              case rel => exact ⟨j + 1, q + kk, ys ++ [x], A3, c3, by omega, by go_num, rfl, hr3', hc3, HSTEP.out, by simpa [ivs] using hown3, hb3⟩
              case measure => simp [intOf]; omega
          · obtain rfl : j = m := by omega
            exact absurd HE.out.fin (by rw [HS.out]; simp)

set_option maxRecDepth 100000 in
set_option maxHeartbeats 1600000 in
theorem RGetInts_some {B : Nat} {A : Option Addr} {c : Nat} {l : List UInt8} {w : World} (hB : B ≤ w.heap.size) (hr : Row w B A (bvs l)) (hc : l.length ≤ c) (hl : l.length ≤ 16777216) {zs : List Int} {r : List UInt8} (h : getL geti l = some (zs, r)) :
    Calls Tryz.prog 139 #[.slice A l.length c] w (RGot2 B 3 (ivs zs) r true w) := by
  cases hg : geti l with
  | none => rw [getL_none hg] at h; cases h
  | some p =>
    obtain ⟨x, k⟩ := p
    have hk := (geti_bounds hg).1
    have hgood : ¬ (x < 0 ∨ ((l.length - k : Nat) : Int) < x) := fun hb => by rw [getL_bad hg hb] at h; cases h
    have HC := hide (RGetInt_some (c := c) hr rfl hc hl hg)
    obtain ⟨m, rfl⟩ := Int.eq_ofNat_of_zero_le (show 0 ≤ x by omega)
    have hm : m ≤ l.length - k := by omega
    have HG := hide hg
    have HH := hide h
    clear h hg hgood
    have hm' : (m : Int) ≤ ((l.length - k : Nat) : Int) := by omega
    have hd1 : decide ((m : Int) < 0) = false := decide_eq_false (by omega)
    have hd2 : decide (l.length - k < m) = false := decide_eq_false (by omega)
    go_enter Tryz.func139, Tryz.ntmps139
    go_wp2_with fail
    refine HC.out.mono ?_
    rintro e w1 ⟨A1, c1, rfl, hr1, hc1, hb1⟩
    clear HC
    rw [List.length_drop] at hc1 ⊢
    go_wp2_with fail
    go_loopw [6, 8, 9] (fun b v i wr => ∃ (j q : Nat) (ys : List Int) (A2 : Option Addr) (c2 : Nat), j ≤ m ∧ i = .int .i64 (j : Int) ∧ b = .slice A2 (l.length - q) c2 ∧ Row wr B A2 (bvs (l.drop q)) ∧ l.length - q ≤ c2 ∧ ElRel geti l m k j ys q ∧ wr.ownsRow w.heap.size 3 1 v ys.length (ivs ys) ∧ Below w.heap.size w wr)
      (fun _ _ i _ => m - (intOf i).toNat)
    case atStart => exact ⟨0, k, [], A1, c1, Nat.zero_le _, rfl, rfl, hr1, hc1, ElRel.start hk, World.ownsRow_nil _ _ _ _, hb1⟩
    case round =>
      obtain ⟨j, q, ys, A2, c2, hj, rfl, rfl, hr2, hc2, hel, hown, hnx⟩ := hrel
      have HE := hide hel; clear hel
      by_cases hlt : j < m
      · have hq := HE.out.2.1
        have hys := HE.out.1
        have HYS := hide hys; clear hys
        have hyl : ys.length ≤ 16777216 := by rw [HYS.out]; omega
        have hr2' := hr2.more (Nat.le_trans hB hnx.size)
        cases hg : geti (l.drop q) with
        | none =>
          have hbad := getL_stop (g := geti) HG.out (HE.out.bad hlt hg)
          rw [hbad] at HH
          exact absurd HH.out (by simp)
        | some pr =>
          obtain ⟨x, kk⟩ := pr
          have hkk := (geti_bounds hg).1
          rw [List.length_drop] at hkk
          have hstep := HE.out.step hlt hg hkk
          have HSTEP := hide hstep
          have hfr : Row wr B A2 (bvs (l.drop q)) := hr2
          have HC := hide (RGetInt_some (B := B) (n := l.length - q) (c := c2) hr2 (by simp) hc2 (by omega) hg)
          clear hg hstep
          go_wp2_with fail
          refine HC.out.mono ?_
          rintro e w2 ⟨A3, c3, rfl, hr3, hc3, hb2⟩
          replace hown := own_below hown hb2
          replace hnx := hnx.trans (hb2.mono hnx.size)
          rw [List.drop_drop] at hr3 hc3 ⊢
          rw [List.length_drop] at hc3 ⊢
          go_wp2_with (first | (at_builtin; go_must (refine wpList_append_new rfl _ _ rfl elemI w.heap.size _ _ _ rfl hown 1 _ rfl rfl (by simp [Value.oneCell']) (by decide) (by unfold maxLen; omega) (by omega) hnx.size ?_)))
          intro v3 w3 hown3 hgrow3
          have hb3 := below_of_own hnx hown hgrow3 hnx.size (Nat.le_refl _)
          have hr3' : Row w3 B A3 (bvs (l.drop (q + kk))) := hr3.grown hgrow3 (Nat.le_trans hB hnx.size) fun b hb => Nat.le_trans hB (hown.lt b hb).1
          clear HC hr3
          go_wp2_with fail
          go_roundw
          case rel => exact ⟨j + 1, q + kk, ys ++ [x], A3, c3, by omega, by go_num, rfl, hr3', hc3, HSTEP.out, by simpa [ivs] using hown3, hb3⟩
          case measure => simp [intOf]; omega
      · obtain rfl : j = m := by omega
        have hfin := getL_some (g := geti) HG.out (by omega) HE.out.2.2.1 HE.out.fin
        have hq := HE.out.2.1
        have hzr : zs = ys ∧ r = l.drop q := by
          have := HH.out; rw [hfin] at this; simp only [Option.some.injEq, Prod.mk.injEq] at this; exact ⟨this.1.symm, this.2.symm⟩
        have HZ := hide hzr
        clear hzr hfin
        go_wp2_with fail
        go_ret3
        obtain ⟨rfl, rfl⟩ := HZ.out
        exact ⟨_, A2, c2, by rw [List.length_drop]; rfl, by simpa [ivs] using hown, hr2, by rw [List.length_drop]; exact hc2, hnx⟩

set_option maxRecDepth 100000 in
set_option maxHeartbeats 1600000 in
theorem RGetTexts_none {B : Nat} {A : Option Addr} {c : Nat} {l : List UInt8} {w : World} (hB : B ≤ w.heap.size) (hr : Row w B A (bvs l)) (hc : l.length ≤ c) (hl : l.length ≤ 16777216) (h : getL getw l = none) :
    Calls Tryz.prog 140 #[.slice A l.length c] w (RGot2 B 9 [] [] false w) := by
  cases hg : geti l with
  | none =>
    have HC := hide (RGetInt_none (c := c) hr rfl hc hl hg)
    clear h hg
    go_enter Tryz.func140, Tryz.ntmps140
    go_wp2_with fail
    refine HC.out.mono ?_
    rintro e w1 ⟨A1, c1, rfl, hr1, hc1, hb1⟩
    go_wp2_with fail
    go_ret3
    exact ⟨_, none, 0, rfl, World.ownsRow_nil _ _ _ _, Row.nil, Nat.le_refl _, hb1⟩
  | some p =>
    obtain ⟨x, k⟩ := p
    have hk := (geti_bounds hg).1
    have HC := hide (RGetInt_some (c := c) hr rfl hc hl hg)
    by_cases hx : x < 0
    · clear h hg
      go_enter Tryz.func140, Tryz.ntmps140
      go_wp2_with fail
      refine HC.out.mono ?_
      rintro e w1 ⟨A1, c1, rfl, hr1, hc1, hb1⟩
      go_wp2_with fail
      go_ret3
      exact ⟨_, none, 0, rfl, World.ownsRow_nil _ _ _ _, Row.nil, Nat.le_refl _, hb1⟩
    · obtain ⟨m, rfl⟩ := Int.eq_ofNat_of_zero_le (show 0 ≤ x by omega)
      by_cases hbig : ((l.length - k : Nat) : Int) < m
      · clear h hg
        go_enter Tryz.func140, Tryz.ntmps140
        go_wp2_with fail
        refine HC.out.mono ?_
        rintro e w1 ⟨A1, c1, rfl, hr1, hc1, hb1⟩
        rw [List.length_drop]
        go_wp2_with fail
        go_ret3
        exact ⟨_, none, 0, rfl, World.ownsRow_nil _ _ _ _, Row.nil, Nat.le_refl _, hb1⟩
      · have hm : m ≤ l.length - k := by omega
        have hstop : elemsGo getw m (l.drop k) = none := by
          cases hq : elemsGo getw m (l.drop k) with
          | none => rfl
          | some q =>
            have hh := getL_some (g := getw) (ys := q.1) (p := k + q.2) hg (by omega) (by omega) (by rw [Int.toNat_natCast, hq]; simp)
            rw [hh] at h; cases h
        have HS := hide hstop
        clear h hg hstop
        have hm' : (m : Int) ≤ ((l.length - k : Nat) : Int) := by omega
        have hd1 : decide ((m : Int) < 0) = false := decide_eq_false (by omega)
        have hd2 : decide (l.length - k < m) = false := decide_eq_false (by omega)
        go_enter Tryz.func140, Tryz.ntmps140
        go_wp2_with fail
        refine HC.out.mono ?_
        rintro e w1 ⟨A1, c1, rfl, hr1, hc1, hb1⟩
        clear HC
        rw [List.length_drop] at hc1 ⊢
        go_wp2_with fail
        go_loopw [6, 8, 9] (fun b v i wr => ∃ (j q : Nat) (ys : List (List UInt8)) (A2 : Option Addr) (c2 : Nat), j ≤ m ∧ i = .int .i64 (j : Int) ∧ b = .slice A2 (l.length - q) c2 ∧ Row wr B A2 (bvs (l.drop q)) ∧ l.length - q ≤ c2 ∧ ElRel getw l m k j ys q ∧ wr.ownsRow w.heap.size 9 1 v ys.length (sls ys) ∧ Below w.heap.size w wr)
          (fun _ _ i _ => m - (intOf i).toNat)
        case atStart => exact ⟨0, k, [], A1, c1, Nat.zero_le _, rfl, rfl, hr1, hc1, ElRel.start hk, World.ownsRow_nil _ _ _ _, hb1⟩
        case round =>
          obtain ⟨j, q, ys, A2, c2, hj, rfl, rfl, hr2, hc2, hel, hown, hnx⟩ := hrel
          have HE := hide hel; clear hel
          by_cases hlt : j < m
          · have hq := HE.out.2.1
            have hys := HE.out.1
            have HYS := hide hys; clear hys
            have hyl : ys.length ≤ 16777216 := by rw [HYS.out]; omega
            have hr2' := hr2.more (Nat.le_trans hB hnx.size)
            cases hg : getw (l.drop q) with
            | none =>
              have HC := hide (RGetText_none (B := B) (n := l.length - q) (c := c2) hr2 (by simp) hc2 (by omega) hg)
              clear hg
              go_wp2_with fail
              refine HC.out.mono ?_
              rintro e w2 ⟨A3, c3, rfl, hr3, hc3, hb2⟩
              go_wp2_with fail
              go_ret3
              exact ⟨_, none, 0, rfl, World.ownsRow_nil _ _ _ _, Row.nil, Nat.le_refl _, (hnx.trans (hb2.mono hnx.size))⟩
            | some pr =>
              obtain ⟨x, kk⟩ := pr
              have hkk := (getw_bounds hg).1
              rw [List.length_drop] at hkk
              have hstep := HE.out.step hlt hg hkk
              have HSTEP := hide hstep
              have hfr : Row wr B A2 (bvs (l.drop q)) := hr2
              have HC := hide (RGetText_some (B := B) (n := l.length - q) (c := c2) hr2 (by simp) hc2 (by omega) hg)
              clear hg hstep
              go_wp2_with fail
              refine HC.out.mono ?_
              rintro e w2 ⟨A3, c3, rfl, hr3, hc3, hb2⟩
              replace hown := own_below hown hb2
              replace hnx := hnx.trans (hb2.mono hnx.size)
              rw [List.drop_drop] at hr3 hc3 ⊢
              rw [List.length_drop] at hc3 ⊢
              go_wp2_with (first | (at_builtin; go_must (refine wpList_append_new rfl _ _ rfl elemS w.heap.size _ _ _ rfl hown 1 _ rfl rfl (by simp [Value.oneCell']) (by decide) (by unfold maxLen; omega) (by omega) hnx.size ?_)))
              intro v3 w3 hown3 hgrow3
              have hb3 := below_of_own hnx hown hgrow3 hnx.size (Nat.le_refl _)
              have hr3' : Row w3 B A3 (bvs (l.drop (q + kk))) := hr3.grown hgrow3 (Nat.le_trans hB hnx.size) fun b hb => Nat.le_trans hB (hown.lt b hb).1
              clear HC hr3
              go_wp2_with fail
              go_roundw
              case rel => exact ⟨j + 1, q + kk, ys ++ [x], A3, c3, by omega, by go_num, rfl, hr3', hc3, HSTEP.out, by simpa [sls] using hown3, hb3⟩
              case measure => simp [intOf]; omega
          · obtain rfl : j = m := by omega
            exact absurd HE.out.fin (by rw [HS.out]; simp)

set_option maxRecDepth 100000 in
set_option maxHeartbeats 1600000 in
theorem RGetTexts_some {B : Nat} {A : Option Addr} {c : Nat} {l : List UInt8} {w : World} (hB : B ≤ w.heap.size) (hr : Row w B A (bvs l)) (hc : l.length ≤ c) (hl : l.length ≤ 16777216) {zs : List (List UInt8)} {r : List UInt8} (h : getL getw l = some (zs, r)) :
    Calls Tryz.prog 140 #[.slice A l.length c] w (RGot2 B 9 (sls zs) r true w) := by
  cases hg : geti l with
  | none => rw [getL_none hg] at h; cases h
  | some p =>
    obtain ⟨x, k⟩ := p
    have hk := (geti_bounds hg).1
    have hgood : ¬ (x < 0 ∨ ((l.length - k : Nat) : Int) < x) := fun hb => by rw [getL_bad hg hb] at h; cases h
    have HC := hide (RGetInt_some (c := c) hr rfl hc hl hg)
    obtain ⟨m, rfl⟩ := Int.eq_ofNat_of_zero_le (show 0 ≤ x by omega)
    have hm : m ≤ l.length - k := by omega
    have HG := hide hg
    have HH := hide h
    clear h hg hgood
    have hm' : (m : Int) ≤ ((l.length - k : Nat) : Int) := by omega
    have hd1 : decide ((m : Int) < 0) = false := decide_eq_false (by omega)
    have hd2 : decide (l.length - k < m) = false := decide_eq_false (by omega)
    go_enter Tryz.func140, Tryz.ntmps140
    go_wp2_with fail
    refine HC.out.mono ?_
    rintro e w1 ⟨A1, c1, rfl, hr1, hc1, hb1⟩
    clear HC
    rw [List.length_drop] at hc1 ⊢
    go_wp2_with fail
    go_loopw [6, 8, 9] (fun b v i wr => ∃ (j q : Nat) (ys : List (List UInt8)) (A2 : Option Addr) (c2 : Nat), j ≤ m ∧ i = .int .i64 (j : Int) ∧ b = .slice A2 (l.length - q) c2 ∧ Row wr B A2 (bvs (l.drop q)) ∧ l.length - q ≤ c2 ∧ ElRel getw l m k j ys q ∧ wr.ownsRow w.heap.size 9 1 v ys.length (sls ys) ∧ Below w.heap.size w wr)
      (fun _ _ i _ => m - (intOf i).toNat)
    case atStart => exact ⟨0, k, [], A1, c1, Nat.zero_le _, rfl, rfl, hr1, hc1, ElRel.start hk, World.ownsRow_nil _ _ _ _, hb1⟩
    case round =>
      obtain ⟨j, q, ys, A2, c2, hj, rfl, rfl, hr2, hc2, hel, hown, hnx⟩ := hrel
      have HE := hide hel; clear hel
      by_cases hlt : j < m
      · have hq := HE.out.2.1
        have hys := HE.out.1
        have HYS := hide hys; clear hys
        have hyl : ys.length ≤ 16777216 := by rw [HYS.out]; omega
        have hr2' := hr2.more (Nat.le_trans hB hnx.size)
        cases hg : getw (l.drop q) with
        | none =>
          have hbad := getL_stop (g := getw) HG.out (HE.out.bad hlt hg)
          rw [hbad] at HH
          exact absurd HH.out (by simp)
        | some pr =>
          obtain ⟨x, kk⟩ := pr
          have hkk := (getw_bounds hg).1
          rw [List.length_drop] at hkk
          have hstep := HE.out.step hlt hg hkk
          have HSTEP := hide hstep
          have hfr : Row wr B A2 (bvs (l.drop q)) := hr2
          have HC := hide (RGetText_some (B := B) (n := l.length - q) (c := c2) hr2 (by simp) hc2 (by omega) hg)
          clear hg hstep
          go_wp2_with fail
          refine HC.out.mono ?_
          rintro e w2 ⟨A3, c3, rfl, hr3, hc3, hb2⟩
          replace hown := own_below hown hb2
          replace hnx := hnx.trans (hb2.mono hnx.size)
          rw [List.drop_drop] at hr3 hc3 ⊢
          rw [List.length_drop] at hc3 ⊢
          go_wp2_with (first | (at_builtin; go_must (refine wpList_append_new rfl _ _ rfl elemS w.heap.size _ _ _ rfl hown 1 _ rfl rfl (by simp [Value.oneCell']) (by decide) (by unfold maxLen; omega) (by omega) hnx.size ?_)))
          intro v3 w3 hown3 hgrow3
          have hb3 := below_of_own hnx hown hgrow3 hnx.size (Nat.le_refl _)
          have hr3' : Row w3 B A3 (bvs (l.drop (q + kk))) := hr3.grown hgrow3 (Nat.le_trans hB hnx.size) fun b hb => Nat.le_trans hB (hown.lt b hb).1
          clear HC hr3
          go_wp2_with fail
          go_roundw
          case rel => exact ⟨j + 1, q + kk, ys ++ [x], A3, c3, by omega, by go_num, rfl, hr3', hc3, HSTEP.out, by simpa [sls] using hown3, hb3⟩
          case measure => simp [intOf]; omega
      · obtain rfl : j = m := by omega
        have hfin := getL_some (g := getw) HG.out (by omega) HE.out.2.2.1 HE.out.fin
        have hq := HE.out.2.1
        have hzr : zs = ys ∧ r = l.drop q := by
          have := HH.out; rw [hfin] at this; simp only [Option.some.injEq, Prod.mk.injEq] at this; exact ⟨this.1.symm, this.2.symm⟩
        have HZ := hide hzr
        clear hzr hfin
        go_wp2_with fail
        go_ret3
        obtain ⟨rfl, rfl⟩ := HZ.out
        exact ⟨_, A2, c2, by rw [List.length_drop]; rfl, by simpa [sls] using hown, hr2, by rw [List.length_drop]; exact hc2, hnx⟩
end

section
open Go.RowKit

theorem Res.unique {α : Type} {g : Option (α × List UInt8)} {z x x' : α} {r r' : List UInt8} {ok ok' : Bool} (h : Res g z x r ok) (h' : Res g z x' r' ok') : x' = x ∧ r' = r ∧ ok' = ok := by
  rcases h with ⟨rfl, h⟩ | ⟨rfl, rfl, rfl, h⟩ <;> rcases h' with ⟨rfl, h'⟩ | ⟨rfl, rfl, rfl, h'⟩
  · rw [h] at h'; simp only [Option.some.injEq, Prod.mk.injEq] at h'; exact ⟨h'.1.symm, h'.2.symm, rfl⟩
  · rw [h] at h'; cases h'
  · rw [h] at h'; cases h'
  · exact ⟨rfl, rfl, rfl⟩

set_option maxRecDepth 100000 in
set_option maxHeartbeats 400000 in
theorem RGetBool_none {B : Nat} {A : Option Addr} {c : Nat} {l : List UInt8} {w : World} (hr : Row w B A (bvs l)) (h : getB l = none) :
    Calls Tryz.prog 138 #[.slice A l.length c] w (RGot B (.bool false) [] false w) := by
  cases l with
  | nil =>
    clear h hr
    go_enter Tryz.func138, Tryz.ntmps138
    go_wp2_with fail
    go_ret3
    exact ⟨none, 0, rfl, Row.nil, Nat.le_refl _, Below.refl _ _⟩
  | cons x r =>
    have hx : 1 < x.toNat := by
      unfold getB at h
      dsimp only at h
      split at h
      · assumption
      · cases h
    obtain ⟨ad, rfl, _, hcell⟩ := hr.at (bvs_get (x :: r) 0 (by simp))
    simp only [List.getElem_cons_zero, bv, Addr.add, if_true] at hcell
    have h0 : (0 : Int) < ((x :: r).length : Int) := by simp
    generalize (x :: r).length = n at h0
    have h1 : ((n : Int) == 0) = false := beq_eq_false_iff_ne.2 (by omega)
    have h2 : (0 : Nat) < n := by omega
    clear h hr
    go_enter Tryz.func138, Tryz.ntmps138
    go_wp2_with fail
    go_ret3
    exact ⟨none, 0, rfl, Row.nil, Nat.le_refl _, Below.refl _ _⟩

set_option maxRecDepth 100000 in
set_option maxHeartbeats 400000 in
theorem RGetBool_some {B : Nat} {A : Option Addr} {c : Nat} {l : List UInt8} {w : World} (hr : Row w B A (bvs l)) (hc : l.length ≤ c) {is : Bool} {r : List UInt8} (h : getB l = some (is, r)) :
    Calls Tryz.prog 138 #[.slice A l.length c] w (RGot B (.bool is) r true w) := by
  cases l with
  | nil => cases h
  | cons x r' =>
    unfold getB at h
    dsimp only at h
    split at h
    · cases h
    · rename_i hx
      simp only [Option.some.injEq, Prod.mk.injEq] at h
      obtain ⟨hb, rfl⟩ := h
      have hr' := hr.cutA (size := 1) (k := 1) (c := c) (by simp [bvs]) hc
      rw [show (bvs (x :: r')).drop (1 * 1) = bvs r' from by simp [bvs]] at hr'
      obtain ⟨ad, rfl, hlt, hcell⟩ := hr.at (bvs_get (x :: r') 0 (by simp))
      simp only [List.getElem_cons_zero, bv, Addr.add, if_true] at hcell
      have hb' : (((x.toNat : Nat) : Int) == 1) = is := by rw [← hb]; rw [Bool.eq_iff_iff, beq_iff_eq, beq_iff_eq]; omega
      have h0 : (0 : Int) < ((x :: r').length : Int) := by simp
      have hrun := run_cut elemB (some ad) (x :: r').length c 1 (by simp)
      have hlen : r'.length = (x :: r').length - 1 := by simp
      have HLEN := hide hlen
      generalize hn : (x :: r').length = n at h0 hrun hc HLEN
      have h1 : ((n : Int) == 0) = false := beq_eq_false_iff_ne.2 (by omega)
      have h2 : (0 : Nat) < n := by omega
      have hx' : (x.toNat : Int) ≤ 1 := by omega
      have hrun' : ∀ w : World, (Instr.slice 48 (.slice (some ad) n c) (some (.int .i64 1)) none none).run Tryz.prog w = .ok (.slice (cutA (some ad) c 1 1) (n - 1) (c - 1)) w := hrun
      clear hr hb hx hn hrun hlen
      go_enter Tryz.func138, Tryz.ntmps138
      go_wp2_with fail
      go_quiet (fail)
      go_wp2_with fail
      go_ret3
      exact ⟨cutA (some ad) c 1 1, c - 1, by rw [HLEN.out]; rfl, hr', by rw [HLEN.out]; omega, below_drewN (Below.refl _ _) _⟩

def RI (B : Nat) (l : List UInt8) (w : World) (e : Ending) (w' : World) : Prop := ∃ x r ok, RGot B (.int .i64 x) r ok w e w' ∧ Res (getI l) 0 x r ok
def RS (B : Nat) (l : List UInt8) (w : World) (e : Ending) (w' : World) : Prop := ∃ x r ok, RGot B (.string (str x)) r ok w e w' ∧ Res (getS l) [] x r ok
def RIs (B : Nat) (l : List UInt8) (w : World) (e : Ending) (w' : World) : Prop := ∃ x r ok, RGot2 B 3 (ivs x) r ok w e w' ∧ Res (getL geti l) [] x r ok
def RSs (B : Nat) (l : List UInt8) (w : World) (e : Ending) (w' : World) : Prop := ∃ x r ok, RGot2 B 9 (sls x) r ok w e w' ∧ Res (getL getw l) [] x r ok
def RB (B : Nat) (l : List UInt8) (w : World) (e : Ending) (w' : World) : Prop := ∃ x r ok, RGot B (.bool x) r ok w e w' ∧ Res (getB l) false x r ok

section
variable {B : Nat} {A : Option Addr} {c : Nat} {l : List UInt8} {w : World} (hB : B ≤ w.heap.size) (hr : Row w B A (bvs l)) (hc : l.length ≤ c) (hl : l.length ≤ 16777216)
include hB hr hc hl
theorem RGetInt_at : Calls Tryz.prog 76 #[.slice A l.length c] w (RI B l w) := by
  cases h : geti l with
  | none => exact (RGetInt_none hr rfl hc hl h).mono fun e w' hg => ⟨_, _, _, hg, by rw [getI_none h]; exact Res.no⟩
  | some p => obtain ⟨x, k⟩ := p; exact (RGetInt_some hr rfl hc hl h).mono fun e w' hg => ⟨_, _, _, hg, by rw [getI_some h]; exact Res.yes⟩
theorem RGetText_at : Calls Tryz.prog 74 #[.slice A l.length c] w (RS B l w) := by
  cases h : getw l with
  | none => exact (RGetText_none hr rfl hc hl h).mono fun e w' hg => ⟨_, _, _, hg, by rw [getS_none h]; exact Res.no⟩
  | some p => obtain ⟨x, k⟩ := p; exact (RGetText_some hr rfl hc hl h).mono fun e w' hg => ⟨_, _, _, hg, by rw [getS_some h]; exact Res.yes⟩
theorem RGetInts_at : Calls Tryz.prog 139 #[.slice A l.length c] w (RIs B l w) := by
  cases h : getL geti l with
  | none => exact (RGetInts_none hB hr hc hl h).mono fun e w' hg => ⟨[], [], false, hg, by rw [h]; exact Res.no⟩
  | some p => obtain ⟨x, r⟩ := p; exact (RGetInts_some hB hr hc hl h).mono fun e w' hg => ⟨_, _, _, hg, by rw [h]; exact Res.yes⟩
theorem RGetTexts_at : Calls Tryz.prog 140 #[.slice A l.length c] w (RSs B l w) := by
  cases h : getL getw l with
  | none => exact (RGetTexts_none hB hr hc hl h).mono fun e w' hg => ⟨[], [], false, hg, by rw [h]; exact Res.no⟩
  | some p => obtain ⟨x, r⟩ := p; exact (RGetTexts_some hB hr hc hl h).mono fun e w' hg => ⟨_, _, _, hg, by rw [h]; exact Res.yes⟩
theorem RGetBool_at : Calls Tryz.prog 138 #[.slice A l.length c] w (RB B l w) := by
  cases h : getB l with
  | none => exact (RGetBool_none hr h).mono fun e w' hg => ⟨_, _, _, hg, by rw [h]; exact Res.no⟩
  | some p => obtain ⟨x, r⟩ := p; exact (RGetBool_some hr hc h).mono fun e w' hg => ⟨_, _, _, hg, by rw [h]; exact Res.yes⟩
end
section
variable {A : Option Addr} {c : Nat} {l : List UInt8} {w : World} (hr : Row w w.heap.size A (bvs l)) (hc : l.length ≤ c) (hl : l.length ≤ 16777216)
include hr hc hl
theorem RGetInt_res : Calls Tryz.prog 76 #[.slice A l.length c] w (RI w.heap.size l w) := RGetInt_at (Nat.le_refl _) hr hc hl
theorem RGetText_res : Calls Tryz.prog 74 #[.slice A l.length c] w (RS w.heap.size l w) := RGetText_at (Nat.le_refl _) hr hc hl
theorem RGetInts_res : Calls Tryz.prog 139 #[.slice A l.length c] w (RIs w.heap.size l w) := RGetInts_at (Nat.le_refl _) hr hc hl
theorem RGetTexts_res : Calls Tryz.prog 140 #[.slice A l.length c] w (RSs w.heap.size l w) := RGetTexts_at (Nat.le_refl _) hr hc hl
theorem RGetBool_res : Calls Tryz.prog 138 #[.slice A l.length c] w (RB w.heap.size l w) := RGetBool_at (Nat.le_refl _) hr hc hl
end
end
end Go.Proofs.YtnfbmhkjmkdmjaaGreat

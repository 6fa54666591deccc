/-
  codec: elements (of integers, of strings), GetInts, GetTexts, GetBool.
-/
import Derived.Test.YtnfbmhkjmkdmjaaGreatGet
import Derived.Test.YtnfbmhkjmkdmjaaGreatElemT
import Derived.Deep.RegionHeld3
set_option linter.unusedVariables false
set_option linter.unusedSimpArgs false
namespace Go.Proofs.YtnfbmhkjmkdmjaaGreat
open Go.RowKit

/-- two rows and a bool are handed back -/
def Got2 (te : TypeId) (first : List Value) (rest : List UInt8) (ok : Bool) (w : World) (e : Ending) (w' : World) : Prop :=
  ∃ v v', e = .returned (.tuple #[v, v', .bool ok]) ∧ w'.ownsRow w.heap.size te 1 v first.length first ∧ w'.ownsRow w.heap.size 5 1 v' rest.length (bvs rest) ∧ Below w.heap.size w w'

def sls (l : List (List UInt8)) : List Value := l.map fun s => Value.string (str s)

set_option maxRecDepth 100000 in
set_option maxHeartbeats 400000 in
theorem ints_none {A : Option Addr} {c : Nat} {l : List UInt8} {w : World} (hr : Row w w.heap.size A (bvs l)) (hc : l.length ≤ c) (hl : l.length ≤ 16777216) (h : getL geti l = none) :
    Calls Tryz.prog 167 #[.slice A l.length c, .func (Fn.func 164) #[] #[]] w (Got2 3 [] [] false w) := by
  cases hg : geti l with
  | none =>
    have HC := hide (integer_none (c := c) hr rfl (by omega) hg)
    clear h hg
    go_enter Tryz.func167, Tryz.ntmps167
    go_wp2_with fail
    refine HC.out.mono ?_
    rintro e w1 ⟨rfl, rfl⟩
    go_wp2_with fail
    go_ret3
    exact ⟨_, _, rfl, World.ownsRow_nil _ _ _ _, World.ownsRow_nil _ _ _ _, Below.refl _ _⟩
  | some p =>
    obtain ⟨x, k⟩ := p
    have hk := (geti_bounds hg).1
    have HC := hide (integer_some (c := c) hr rfl (by omega) hg)
    by_cases hx : x < 0
    · clear h hg
      go_enter Tryz.func167, Tryz.ntmps167
      go_wp2_with fail
      refine HC.out.mono ?_
      rintro e w1 ⟨rfl, rfl⟩
      go_wp2_with fail
      go_ret3
      exact ⟨_, _, rfl, World.ownsRow_nil _ _ _ _, World.ownsRow_nil _ _ _ _, Below.refl _ _⟩
    · obtain ⟨m, rfl⟩ := Int.eq_ofNat_of_zero_le (show 0 ≤ x by omega)
      by_cases hbig : (l.length : Int) - (k : Int) < m
      · clear h hg
        go_enter Tryz.func167, Tryz.ntmps167
        go_wp2_with fail
        refine HC.out.mono ?_
        rintro e w1 ⟨rfl, rfl⟩
        go_wp2_with fail
        go_ret3
        exact ⟨_, _, rfl, World.ownsRow_nil _ _ _ _, World.ownsRow_nil _ _ _ _, Below.refl _ _⟩
      · have hm : m ≤ l.length - k := by omega
        have hstop : elemsGo geti m (l.drop k) = none := by
          cases hq : elemsGo geti m (l.drop k) with
          | none => rfl
          | some q =>
            have hh := getL_some (g := geti) (ys := q.1) (p := k + q.2) hg (by omega) (by omega) (by rw [Int.toNat_natCast, hq]; simp)
            rw [hh] at h; cases h
        have HS := hide hstop
        clear h hg hstop
        go_enter Tryz.func167, Tryz.ntmps167
        go_wp2_with fail
        refine HC.out.mono ?_
        rintro e w1 ⟨rfl, rfl⟩
        clear HC
        go_wp2_with (first | (at_make; go_must (refine wpList_make rfl _ _ rfl elemI w.heap.size .i64 .i64 _ _ 0 m rfl rfl rfl rfl (Nat.zero_le _) (by omega) (by unfold maxLen; omega) (Nat.le_refl _) ?_)))
        rintro g w1 hgw hown hgrow hsz
        have HGW := hide hgw; have HSZ := hide hsz
        have hb1 := (Below.refl w.heap.size w).grown hgrow (Nat.le_refl _) (by simp)
        have hw1 : w.heap.size ≤ w1.heap.size := by omega
        clear hgrow hgw hsz
        go_wp2_with fail
        go_loopw [8, 10, 37] (fun p v i wr => ∃ (j q : Nat) (ys : List Int), j ≤ m ∧ i = .int .i64 (j : Int) ∧ p = .int .i64 (q : Int) ∧ ElRel geti l m k j ys q ∧ wr.ownsRow w.heap.size 3 1 v ys.length (ivs ys) ∧ Below w.heap.size w wr)
          (fun _ _ i _ => m - (intOf i).toNat)
        case atStart => exact ⟨0, k, [], Nat.zero_le _, rfl, rfl, ElRel.start hk, by simpa [ivs, madeCells] using hown, hb1⟩
        case round =>
          obtain ⟨j, q, ys, hj, rfl, rfl, hel, hown, hnx⟩ := hrel
          have HE := hide hel; clear hel
          by_cases hlt : j < m
          · have hq := HE.out.2.1
            have hys := HE.out.1
            have HYS := hide hys; clear hys
            have hyl : ys.length ≤ 16777216 := by rw [HYS.out]; omega
            have hrun := run_cut elemB A l.length c q hq
            have hr' := (hr.below hnx).cutA (size := 1) (k := q) (c := c) (by simp [bvs]) hc
            have e1 : (bvs l).drop (q * 1) = bvs (l.drop q) := by simp [bvs]
            rw [e1] at hr'
            clear e1
            cases hg : geti (l.drop q) with
            | none =>
              have HC := hide (integer_none (n := l.length - q) (c := c - q) hr' (by simp) (by omega) hg)
              clear hg hr'
              go_wp2_with fail
              refine HC.out.mono ?_
              rintro e w2 ⟨rfl, rfl⟩
              go_wp2_with fail
              go_ret3
              exact ⟨_, _, rfl, World.ownsRow_nil _ _ _ _, World.ownsRow_nil _ _ _ _, hnx⟩
            | some pr =>
              obtain ⟨x, kk⟩ := pr
              have hkk := (geti_bounds hg).1
              rw [List.length_drop] at hkk
              have hstep := HE.out.step hlt hg hkk
              have HSTEP := hide hstep
              have HC := hide (integer_some (n := l.length - q) (c := c - q) hr' (by simp) (by omega) hg)
              clear hg hr' hstep
              go_wp2_with fail
              refine HC.out.mono ?_
              rintro e w2 ⟨rfl, rfl⟩
              go_wp2_with (first | (at_builtin; go_must (refine wpList_append_new rfl _ _ rfl elemI w.heap.size _ _ _ rfl hown 1 _ rfl rfl (by simp [Value.oneCell']) (by decide) (by unfold maxLen; omega) (by omega) hnx.size ?_)))
              intro v3 w3 hown3 hgrow3
              have hb3 := below_of_own hnx hown hgrow3 hnx.size (Nat.le_refl _)
              clear HC hrun
              go_wp2_with fail
              go_roundw
              case rel => exact ⟨j + 1, q + kk, ys ++ [x], by omega, by go_num, by go_num, HSTEP.out, by simpa [ivs] using hown3, hb3⟩
              case measure => simp [intOf]; omega
          · obtain rfl : j = m := by omega
            exact absurd HE.out.fin (by rw [HS.out]; simp)

set_option maxRecDepth 100000 in
set_option maxHeartbeats 400000 in
theorem ints_some {A : Option Addr} {c : Nat} {l : List UInt8} {w : World} (hr : Row w w.heap.size A (bvs l)) (hc : l.length ≤ c) (hl : l.length ≤ 16777216) {zs : List Int} {r : List UInt8} (h : getL geti l = some (zs, r)) :
    Calls Tryz.prog 167 #[.slice A l.length c, .func (Fn.func 164) #[] #[]] w (Got2 3 (ivs zs) r true w) := by
  cases hg : geti l with
  | none => rw [getL_none hg] at h; cases h
  | some p =>
    obtain ⟨x, k⟩ := p
    have hk := (geti_bounds hg).1
    have hgood : ¬ (x < 0 ∨ ((l.length - k : Nat) : Int) < x) := fun hb => by rw [getL_bad hg hb] at h; cases h
    have HC := hide (integer_some (c := c) hr rfl (by omega) hg)
    obtain ⟨m, rfl⟩ := Int.eq_ofNat_of_zero_le (show 0 ≤ x by omega)
    have hm : m ≤ l.length - k := by omega
    have hm' : (m : Int) ≤ (l.length : Int) - (k : Int) := by omega
    have HG := hide hg
    have HH := hide h
    clear h hg hgood
    go_enter Tryz.func167, Tryz.ntmps167
    go_wp2_with fail
    refine HC.out.mono ?_
    rintro e w1 ⟨rfl, rfl⟩
    clear HC
    go_wp2_with (first | (at_make; go_must (refine wpList_make rfl _ _ rfl elemI w.heap.size .i64 .i64 _ _ 0 m rfl rfl rfl rfl (Nat.zero_le _) (by omega) (by unfold maxLen; omega) (Nat.le_refl _) ?_)))
    rintro g w1 hgw hown hgrow hsz
    have HGW := hide hgw; have HSZ := hide hsz
    have hb1 := (Below.refl w.heap.size w).grown hgrow (Nat.le_refl _) (by simp)
    have hw1 : w.heap.size ≤ w1.heap.size := by omega
    clear hgrow hgw hsz
    go_wp2_with fail
    go_loopw [8, 10, 37] (fun p v i wr => ∃ (j q : Nat) (ys : List Int), j ≤ m ∧ i = .int .i64 (j : Int) ∧ p = .int .i64 (q : Int) ∧ ElRel geti l m k j ys q ∧ wr.ownsRow w.heap.size 3 1 v ys.length (ivs ys) ∧ Below w.heap.size w wr)
      (fun _ _ i _ => m - (intOf i).toNat)
    case atStart => exact ⟨0, k, [], Nat.zero_le _, rfl, rfl, ElRel.start hk, by simpa [ivs, madeCells] using hown, hb1⟩
    case round =>
      obtain ⟨j, q, ys, hj, rfl, rfl, hel, hown, hnx⟩ := hrel
      have HE := hide hel; clear hel
      by_cases hlt : j < m
      · have hq := HE.out.2.1
        have hys := HE.out.1
        have HYS := hide hys; clear hys
        have hyl : ys.length ≤ 16777216 := by rw [HYS.out]; omega
        have hrun := run_cut elemB A l.length c q hq
        have hr' := (hr.below hnx).cutA (size := 1) (k := q) (c := c) (by simp [bvs]) hc
        have e1 : (bvs l).drop (q * 1) = bvs (l.drop q) := by simp [bvs]
        rw [e1] at hr'
        clear e1
        cases hg : geti (l.drop q) with
        | none =>
          have hbad := getL_stop (g := geti) HG.out (HE.out.bad hlt hg)
          rw [hbad] at HH
          exact absurd HH.out (by simp)
        | some pr =>
          obtain ⟨x, kk⟩ := pr
          have hkk := (geti_bounds hg).1
          rw [List.length_drop] at hkk
          have hstep := HE.out.step hlt hg hkk
          have HSTEP := hide hstep
          have HC := hide (integer_some (n := l.length - q) (c := c - q) hr' (by simp) (by omega) hg)
          clear hg hr' hstep
          go_wp2_with fail
          refine HC.out.mono ?_
          rintro e w2 ⟨rfl, rfl⟩
          go_wp2_with (first | (at_builtin; go_must (refine wpList_append_new rfl _ _ rfl elemI w.heap.size _ _ _ rfl hown 1 _ rfl rfl (by simp [Value.oneCell']) (by decide) (by unfold maxLen; omega) (by omega) hnx.size ?_)))
          intro v3 w3 hown3 hgrow3
          have hb3 := below_of_own hnx hown hgrow3 hnx.size (Nat.le_refl _)
          clear HC hrun
          go_wp2_with fail
          go_roundw
          case rel => exact ⟨j + 1, q + kk, ys ++ [x], by omega, by go_num, by go_num, HSTEP.out, by simpa [ivs] using hown3, hb3⟩
          case measure => simp [intOf]; omega
      · obtain rfl : j = m := by omega
        have hfin := getL_some (g := geti) HG.out (by omega) HE.out.2.2.1 HE.out.fin
        have hq := HE.out.2.1
        have hzr : zs = ys ∧ r = l.drop q := by
          have := HH.out; rw [hfin] at this; simp only [Option.some.injEq, Prod.mk.injEq] at this; exact ⟨this.1.symm, this.2.symm⟩
        have HZ := hide hzr
        clear hzr hfin
        go_wp2_with fail
        refine (rest_any A c l q wr ((hr.below hnx).more hnx.size) hq hc (by omega)).mono ?_
        rintro e w2 ⟨v2, rfl, hown2, hb2⟩
        go_wp2_with fail
        go_ret3
        obtain ⟨rfl, rfl⟩ := HZ.out
        exact ⟨_, _, rfl, by simpa [ivs] using own_below hown hb2, own_more hown2 hnx.size, hnx.trans (hb2.mono hnx.size)⟩

set_option maxRecDepth 100000 in
set_option maxHeartbeats 400000 in
theorem texts_none {A : Option Addr} {c : Nat} {l : List UInt8} {w : World} (hr : Row w w.heap.size A (bvs l)) (hc : l.length ≤ c) (hl : l.length ≤ 16777216) (h : getL getw l = none) :
    Calls Tryz.prog 177 #[.slice A l.length c, .func (Fn.func 166) #[] #[]] w (Got2 9 [] [] false w) := by
  cases hg : geti l with
  | none =>
    have HC := hide (integer_none (c := c) hr rfl (by omega) hg)
    clear h hg
    go_enter Tryz.func177, Tryz.ntmps177
    go_wp2_with fail
    refine HC.out.mono ?_
    rintro e w1 ⟨rfl, rfl⟩
    go_wp2_with fail
    go_ret3
    exact ⟨_, _, rfl, World.ownsRow_nil _ _ _ _, World.ownsRow_nil _ _ _ _, Below.refl _ _⟩
  | some p =>
    obtain ⟨x, k⟩ := p
    have hk := (geti_bounds hg).1
    have HC := hide (integer_some (c := c) hr rfl (by omega) hg)
    by_cases hx : x < 0
    · clear h hg
      go_enter Tryz.func177, Tryz.ntmps177
      go_wp2_with fail
      refine HC.out.mono ?_
      rintro e w1 ⟨rfl, rfl⟩
      go_wp2_with fail
      go_ret3
      exact ⟨_, _, rfl, World.ownsRow_nil _ _ _ _, World.ownsRow_nil _ _ _ _, Below.refl _ _⟩
    · obtain ⟨m, rfl⟩ := Int.eq_ofNat_of_zero_le (show 0 ≤ x by omega)
      by_cases hbig : (l.length : Int) - (k : Int) < m
      · clear h hg
        go_enter Tryz.func177, Tryz.ntmps177
        go_wp2_with fail
        refine HC.out.mono ?_
        rintro e w1 ⟨rfl, rfl⟩
        go_wp2_with fail
        go_ret3
        exact ⟨_, _, rfl, World.ownsRow_nil _ _ _ _, World.ownsRow_nil _ _ _ _, Below.refl _ _⟩
      · have hm : m ≤ l.length - k := by omega
        have hstop : elemsGo getw m (l.drop k) = none := by
          cases hq : elemsGo getw m (l.drop k) with
          | none => rfl
          | some q =>
            have hh := getL_some (g := getw) (ys := q.1) (p := k + q.2) hg (by omega) (by omega) (by rw [Int.toNat_natCast, hq]; simp)
            rw [hh] at h; cases h
        have HS := hide hstop
        clear h hg hstop
        go_enter Tryz.func177, Tryz.ntmps177
        go_wp2_with fail
        refine HC.out.mono ?_
        rintro e w1 ⟨rfl, rfl⟩
        clear HC
        go_wp2_with (first | (at_make; go_must (refine wpList_make rfl _ _ rfl elemS w.heap.size .i64 .i64 _ _ 0 m rfl rfl rfl rfl (Nat.zero_le _) (by omega) (by unfold maxLen; omega) (Nat.le_refl _) ?_)))
        rintro g w1 hgw hown hgrow hsz
        have HGW := hide hgw; have HSZ := hide hsz
        have hb1 := (Below.refl w.heap.size w).grown hgrow (Nat.le_refl _) (by simp)
        have hw1 : w.heap.size ≤ w1.heap.size := by omega
        clear hgrow hgw hsz
        go_wp2_with fail
        go_loopw [8, 10, 37] (fun p v i wr => ∃ (j q : Nat) (ys : List (List UInt8)), j ≤ m ∧ i = .int .i64 (j : Int) ∧ p = .int .i64 (q : Int) ∧ ElRel getw l m k j ys q ∧ wr.ownsRow w.heap.size 9 1 v ys.length (sls ys) ∧ Below w.heap.size w wr)
          (fun _ _ i _ => m - (intOf i).toNat)
        case atStart => exact ⟨0, k, [], Nat.zero_le _, rfl, rfl, ElRel.start hk, by simpa [sls, madeCells] using hown, hb1⟩
        case round =>
          obtain ⟨j, q, ys, hj, rfl, rfl, hel, hown, hnx⟩ := hrel
          have HE := hide hel; clear hel
          by_cases hlt : j < m
          · have hq := HE.out.2.1
            have hys := HE.out.1
            have HYS := hide hys; clear hys
            have hyl : ys.length ≤ 16777216 := by rw [HYS.out]; omega
            have hrun := run_cut elemB A l.length c q hq
            have hr' := (hr.below hnx).cutA (size := 1) (k := q) (c := c) (by simp [bvs]) hc
            have e1 : (bvs l).drop (q * 1) = bvs (l.drop q) := by simp [bvs]
            rw [e1] at hr'
            clear e1
            cases hg : getw (l.drop q) with
            | none =>
              have HC := hide (word_none (n := l.length - q) (c := c - q) hr' (by simp) (by omega) hg)
              clear hg hr'
              go_wp2_with fail
              refine HC.out.mono ?_
              rintro e w2 ⟨rfl, rfl⟩
              go_wp2_with fail
              go_ret3
              exact ⟨_, _, rfl, World.ownsRow_nil _ _ _ _, World.ownsRow_nil _ _ _ _, hnx⟩
            | some pr =>
              obtain ⟨x, kk⟩ := pr
              have hkk := (getw_bounds hg).1
              rw [List.length_drop] at hkk
              have hstep := HE.out.step hlt hg hkk
              have HSTEP := hide hstep
              have HC := hide (word_some (n := l.length - q) (c := c - q) hr' (by simp) (by omega) (by omega) hg)
              clear hg hr' hstep
              go_wp2_with fail
              refine HC.out.mono ?_
              rintro e w2 ⟨rfl, rfl⟩
              go_wp2_with (first | (at_builtin; go_must (refine wpList_append_new rfl _ _ rfl elemS w.heap.size _ _ _ rfl hown 1 _ rfl rfl (by simp [Value.oneCell']) (by decide) (by unfold maxLen; omega) (by omega) hnx.size ?_)))
              intro v3 w3 hown3 hgrow3
              have hb3 := below_of_own hnx hown hgrow3 hnx.size (Nat.le_refl _)
              clear HC hrun
              go_wp2_with fail
              go_roundw
              case rel => exact ⟨j + 1, q + kk, ys ++ [x], by omega, by go_num, by go_num, HSTEP.out, by simpa [sls] using hown3, hb3⟩
              case measure => simp [intOf]; omega
          · obtain rfl : j = m := by omega
            exact absurd HE.out.fin (by rw [HS.out]; simp)

set_option maxRecDepth 100000 in
set_option maxHeartbeats 400000 in
theorem texts_some {A : Option Addr} {c : Nat} {l : List UInt8} {w : World} (hr : Row w w.heap.size A (bvs l)) (hc : l.length ≤ c) (hl : l.length ≤ 16777216) {zs : List (List UInt8)} {r : List UInt8} (h : getL getw l = some (zs, r)) :
    Calls Tryz.prog 177 #[.slice A l.length c, .func (Fn.func 166) #[] #[]] w (Got2 9 (sls zs) r true w) := by
  cases hg : geti l with
  | none => rw [getL_none hg] at h; cases h
  | some p =>
    obtain ⟨x, k⟩ := p
    have hk := (geti_bounds hg).1
    have hgood : ¬ (x < 0 ∨ ((l.length - k : Nat) : Int) < x) := fun hb => by rw [getL_bad hg hb] at h; cases h
    have HC := hide (integer_some (c := c) hr rfl (by omega) hg)
    obtain ⟨m, rfl⟩ := Int.eq_ofNat_of_zero_le (show 0 ≤ x by omega)
    have hm : m ≤ l.length - k := by omega
    have hm' : (m : Int) ≤ (l.length : Int) - (k : Int) := by omega
    have HG := hide hg
    have HH := hide h
    clear h hg hgood
    go_enter Tryz.func177, Tryz.ntmps177
    go_wp2_with fail
    refine HC.out.mono ?_
    rintro e w1 ⟨rfl, rfl⟩
    clear HC
    go_wp2_with (first | (at_make; go_must (refine wpList_make rfl _ _ rfl elemS w.heap.size .i64 .i64 _ _ 0 m rfl rfl rfl rfl (Nat.zero_le _) (by omega) (by unfold maxLen; omega) (Nat.le_refl _) ?_)))
    rintro g w1 hgw hown hgrow hsz
    have HGW := hide hgw; have HSZ := hide hsz
    have hb1 := (Below.refl w.heap.size w).grown hgrow (Nat.le_refl _) (by simp)
    have hw1 : w.heap.size ≤ w1.heap.size := by omega
    clear hgrow hgw hsz
    go_wp2_with fail
    go_loopw [8, 10, 37] (fun p v i wr => ∃ (j q : Nat) (ys : List (List UInt8)), j ≤ m ∧ i = .int .i64 (j : Int) ∧ p = .int .i64 (q : Int) ∧ ElRel getw l m k j ys q ∧ wr.ownsRow w.heap.size 9 1 v ys.length (sls ys) ∧ Below w.heap.size w wr)
      (fun _ _ i _ => m - (intOf i).toNat)
    case atStart => exact ⟨0, k, [], Nat.zero_le _, rfl, rfl, ElRel.start hk, by simpa [sls, madeCells] using hown, hb1⟩
    case round =>
      obtain ⟨j, q, ys, hj, rfl, rfl, hel, hown, hnx⟩ := hrel
      have HE := hide hel; clear hel
      by_cases hlt : j < m
      · have hq := HE.out.2.1
        have hys := HE.out.1
        have HYS := hide hys; clear hys
        have hyl : ys.length ≤ 16777216 := by rw [HYS.out]; omega
        have hrun := run_cut elemB A l.length c q hq
        have hr' := (hr.below hnx).cutA (size := 1) (k := q) (c := c) (by simp [bvs]) hc
        have e1 : (bvs l).drop (q * 1) = bvs (l.drop q) := by simp [bvs]
        rw [e1] at hr'
        clear e1
        cases hg : getw (l.drop q) with
        | none =>
          have hbad := getL_stop (g := getw) HG.out (HE.out.bad hlt hg)
          rw [hbad] at HH
          exact absurd HH.out (by simp)
        | some pr =>
          obtain ⟨x, kk⟩ := pr
          have hkk := (getw_bounds hg).1
          rw [List.length_drop] at hkk
          have hstep := HE.out.step hlt hg hkk
          have HSTEP := hide hstep
          have HC := hide (word_some (n := l.length - q) (c := c - q) hr' (by simp) (by omega) (by omega) hg)
          clear hg hr' hstep
          go_wp2_with fail
          refine HC.out.mono ?_
          rintro e w2 ⟨rfl, rfl⟩
          go_wp2_with (first | (at_builtin; go_must (refine wpList_append_new rfl _ _ rfl elemS w.heap.size _ _ _ rfl hown 1 _ rfl rfl (by simp [Value.oneCell']) (by decide) (by unfold maxLen; omega) (by omega) hnx.size ?_)))
          intro v3 w3 hown3 hgrow3
          have hb3 := below_of_own hnx hown hgrow3 hnx.size (Nat.le_refl _)
          clear HC hrun
          go_wp2_with fail
          go_roundw
          case rel => exact ⟨j + 1, q + kk, ys ++ [x], by omega, by go_num, by go_num, HSTEP.out, by simpa [sls] using hown3, hb3⟩
          case measure => simp [intOf]; omega
      · obtain rfl : j = m := by omega
        have hfin := getL_some (g := getw) HG.out (by omega) HE.out.2.2.1 HE.out.fin
        have hq := HE.out.2.1
        have hzr : zs = ys ∧ r = l.drop q := by
          have := HH.out; rw [hfin] at this; simp only [Option.some.injEq, Prod.mk.injEq] at this; exact ⟨this.1.symm, this.2.symm⟩
        have HZ := hide hzr
        clear hzr hfin
        go_wp2_with fail
        refine (rest_any A c l q wr ((hr.below hnx).more hnx.size) hq hc (by omega)).mono ?_
        rintro e w2 ⟨v2, rfl, hown2, hb2⟩
        go_wp2_with fail
        go_ret3
        obtain ⟨rfl, rfl⟩ := HZ.out
        exact ⟨_, _, rfl, by simpa [sls] using own_below hown hb2, own_more hown2 hnx.size, hnx.trans (hb2.mono hnx.size)⟩

theorem sls_svs (l : List (List UInt8)) : sls l = svs (l.map str) := by simp [sls, svs]
end Go.Proofs.YtnfbmhkjmkdmjaaGreat

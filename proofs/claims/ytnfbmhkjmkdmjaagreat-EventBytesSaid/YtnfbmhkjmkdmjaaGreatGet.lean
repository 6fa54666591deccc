/-
  codec: integer, rest, GetInt, word, GetText, elements, GetInts, GetTexts, GetBool.
-/
import Derived.Test.YtnfbmhkjmkdmjaaGreatNum
import Derived.Test.YtnfbmhkjmkdmjaaGreatDec
import Derived.Test.YtnfbmhkjmkdmjaaGreatMem
set_option linter.unusedVariables false
set_option linter.unusedSimpArgs false
namespace Go.Proofs.YtnfbmhkjmkdmjaaGreat
open Go.RowKit

/-- what 'integer' hands back -/
def IntegerV (l : List UInt8) (e : Ending) : Prop := e = .returned (match geti l with | some (n, k) => .tuple #[.int .i64 n, .int .i64 (k : Int), .bool true] | none => .tuple #[.int .i64 0, .int .i64 0, .bool false])

theorem integerV_none {l : List UInt8} (h : geti l = none) : IntegerV l (.returned (.tuple #[.int .i64 0, .int .i64 0, .bool false])) := by unfold IntegerV; rw [h]
theorem integerV_some {l : List UInt8} {n : Int} {k : Nat} {v : Value} (h : geti l = some (n, k)) (hv : v = .tuple #[.int .i64 n, .int .i64 (k : Int), .bool true]) : IntegerV l (.returned v) := by unfold IntegerV; rw [h, hv]

set_option maxRecDepth 100000 in
set_option maxHeartbeats 800000 in
theorem integer_any (B : Nat) (A : Option Addr) (c : Nat) (l : List UInt8) (w : World) (hr : Row w B A (bvs l)) (hl : l.length ≤ 1099511627776) :
    Calls Tryz.prog 164 #[.slice A l.length c] w (fun e w' => IntegerV l e ∧ w = w') := by
  go_enter Tryz.func164, Tryz.ntmps164
  go_wp2_with fail
  go_loop [5, 6] (fun u i => ∃ u' k : Nat, k ≤ l.length ∧ k ≤ 10 ∧ i = .int .i64 (k : Int) ∧ u = .int .u64 (u' : Int) ∧ Hid (u' < 2 ^ (7 * k)) ∧ DecRel l k u') (fun _ i => l.length - (intOf i).toNat)
  case atStart => exact ⟨0, 0, Nat.zero_le _, by decide, rfl, rfl, by simp [Hid], DecRel.start l⟩
  case round =>
    obtain ⟨u', k, hk, hk10, rfl, rfl, hu, hrel⟩ := hrel
    by_cases hlt : k < l.length
    · by_cases h10 : k < 10
      · obtain ⟨ad, rfl, _, hcell⟩ := hr.at (bvs_get l k hlt)
        unfold bv at hcell
        obtain ⟨x, hx⟩ : ∃ x, x = l[k].toNat := ⟨_, rfl⟩
        have hx256 : x < 256 := by rw [hx]; exact UInt8.toNat_lt _
        rw [← hx] at hcell
        have HX := hide hx; clear hx
        obtain ⟨b9, hb9⟩ : ∃ b, ((k : Int) == 9) = b := ⟨_, rfl⟩
        obtain ⟨b0, hb0⟩ : ∃ b, ((x : Int) == 0) = b := ⟨_, rfl⟩
        have H9 : Hid (b9 = true ↔ k = 9) := by simp only [Hid, ← hb9, beq_iff_eq]; omega
        have H0 : Hid (b0 = true ↔ x = 0) := by simp only [Hid, ← hb0, beq_iff_eq]; omega
        have HR := hide hrel; clear hrel
        by_cases hA : k = 9 ∧ 1 < x
        · have HF := hide (HR.out.long hlt hA.1 (by rw [← HX.out]; exact hA.2))
          have h1x := hA.2
          obtain rfl : b9 = true := H9.out.2 hA.1
          clear hA
          go_wp2_with fail
          go_ret3
          exact ⟨integerV_none HF.out, rfl⟩
        · obtain ⟨U, hU⟩ : ∃ U, U = u' + x % 128 * 2 ^ (7 * k) := ⟨_, rfl⟩
          have hb := dec_bound (i := k) (u := u') (c := x % 128) h10 (by omega) (by omega) hu.out
          have hUe := u64_or k u' x h10 hA hx256 (by omega) hu.out
          rw [← hU] at hUe hb
          have hand := u64_odd U hb.1
          have HB := hide hb
          have FB : Hid (128 ≤ x → DecRel l (k + 1) U) := fun h => by rw [hU, HX.out]; exact HR.out.go hlt h10 (by rw [← HX.out]; exact hA) (by rw [← HX.out]; exact h)
          have FC : Hid (x = 0 → 0 < k → geti l = none) := fun h h' => HR.out.zero hlt (by rw [← HX.out]; exact h) h'
          have FD : Hid (x < 128 → ¬ (x = 0 ∧ 0 < k) → geti l = some (unzig U, k + 1)) := fun h h' => by
            rw [hU, Nat.mod_eq_of_lt h, HX.out]; exact HR.out.fin hlt h10 (by rw [← HX.out]; exact hA) (by rw [← HX.out]; exact h) (by rw [← HX.out]; exact h')
          have HO : Hid (((U : Int) % 2 == 1) = true ↔ U % 2 = 1) := by simp only [Hid, beq_iff_eq]; omega
          have h1x : k = 9 → x ≤ 1 := by omega
          have HA : Hid (k = 9 → x ≤ 1) := h1x
          clear hU hb hA
          cases b9 <;> cases b0
          case' true.false => have h1x' := h1x (H9.out.1 rfl)
          case' true.true => have h1x' := h1x (H9.out.1 rfl)
          all_goals clear h1x
          all_goals
            go_wp2_with fail
            all_goals first
              | (go_round
                 case rel => exact ⟨U, k + 1, by omega, by omega, by go_num, rfl, HB.out.2.1, FB.out (by omega)⟩
                 case measure => simp [intOf]; omega)
              | (go_ret3; exact ⟨integerV_none (FC.out (by simpa using H0.out) (by assumption)), rfl⟩)
              | (have ho : ((U : Int) % 2 == 1) = true := by assumption
                 go_ret3
                 refine ⟨integerV_some (FD.out (by omega) (by have := H0.out; simp at this; omega)) ?_, rfl⟩
                 rw [unzig_odd U HB.out.1 (HO.out.1 ho)]; rfl)
              | (have ho : ((U : Int) % 2 == 1) = false := by assumption
                 go_ret3
                 refine ⟨integerV_some (FD.out (by omega) (by have := H0.out; simp at this; omega)) ?_, rfl⟩
                 rw [unzig_even U HB.out.1 (fun h => by have := HO.out.2 h; rw [ho] at this; cases this)]; rfl)
              | go_ways
      · have HF := hide (hrel.stop (.inr (by omega)))
        go_wp2_with fail
        go_ret3
        exact ⟨integerV_none HF.out, rfl⟩
    · have HF := hide (hrel.stop (.inl (by omega)))
      go_wp2_with fail
      go_ret3
      exact ⟨integerV_none HF.out, rfl⟩

set_option maxRecDepth 100000 in
set_option maxHeartbeats 400000 in
theorem rest_any (A : Option Addr) (c : Nat) (l : List UInt8) (k : Nat) (w : World) (hr : Row w w.heap.size A (bvs l)) (hk : k ≤ l.length) (hc : l.length ≤ c) (hl : l.length ≤ 1073741824) :
    Calls Tryz.prog 165 #[.slice A l.length c, .int .i64 (k : Int)] w (OwnB w.heap.size (l.drop k) w) := by
  have hrun := run_cut elemB A l.length c k hk
  have hr' := hr.cutA (size := 1) (k := k) (c := c) (by simp [bvs]) hc
  have e1 : (bvs l).drop (k * 1) = bvs (l.drop k) := by simp [bvs]
  rw [e1] at hr'
  have hroom := room_at (cutA A c k 1) (l.length - k) (c - k) (l.drop k) 0 w hr' (by simp) (by decide) (by decide) (by omega)
  have HR := hide hroom
  clear hroom e1
  go_enter Tryz.func165, Tryz.ntmps165
  go_wp2_with fail
  refine HR.out.mono ?_
  rintro e w1 ⟨v1, rfl, hown, hb⟩
  go_wp2_with fail
  go_ret
  exact ⟨_, rfl, hown, hb⟩

theorem integer_some {B : Nat} {A : Option Addr} {n c : Nat} {l : List UInt8} {w : World} (hr : Row w B A (bvs l)) (hn : l.length = n) (hl : n ≤ 1099511627776) {x : Int} {k : Nat} (h : geti l = some (x, k)) :
    Calls Tryz.prog 164 #[.slice A n c] w (fun e w' => e = .returned (.tuple #[.int .i64 x, .int .i64 (k : Int), .bool true]) ∧ w = w') := by
  subst hn
  refine (integer_any B A c l w hr hl).mono fun e w' ⟨he, hw⟩ => ⟨?_, hw⟩
  unfold IntegerV at he; rw [h] at he; exact he
theorem integer_none {B : Nat} {A : Option Addr} {n c : Nat} {l : List UInt8} {w : World} (hr : Row w B A (bvs l)) (hn : l.length = n) (hl : n ≤ 1099511627776) (h : geti l = none) :
    Calls Tryz.prog 164 #[.slice A n c] w (fun e w' => e = .returned (.tuple #[.int .i64 0, .int .i64 0, .bool false]) ∧ w = w') := by
  subst hn
  refine (integer_any B A c l w hr hl).mono fun e w' ⟨he, hw⟩ => ⟨?_, hw⟩
  unfold IntegerV at he; rw [h] at he; exact he

/-- a value, bytes and a bool are handed back -/
def Got (first : Value) (rest : List UInt8) (ok : Bool) (w : World) (e : Ending) (w' : World) : Prop :=
  ∃ v', e = .returned (.tuple #[first, v', .bool ok]) ∧ w'.ownsRow w.heap.size 5 1 v' rest.length (bvs rest) ∧ Below w.heap.size w w'

set_option maxRecDepth 100000 in
set_option maxHeartbeats 400000 in
theorem GetInt_none {A : Option Addr} {c : Nat} {l : List UInt8} {w : World} (hr : Row w w.heap.size A (bvs l)) (hl : l.length ≤ 1073741824) (h : getI l = none) :
    Calls Tryz.prog 128 #[.slice A l.length c] w (Got (.int .i64 0) [] false w) := by
  have hg : geti l = none := by
    cases hq : geti l with
    | none => rfl
    | some p => rw [getI_some hq] at h; cases h
  have HC := hide (integer_none (c := c) hr rfl (by omega) hg)
  clear h hg
  go_enter Tryz.func128, Tryz.ntmps128
  go_wp2_with fail
  refine HC.out.mono ?_
  rintro e w1 ⟨rfl, rfl⟩
  go_wp2_with fail
  go_ret3
  exact ⟨_, rfl, World.ownsRow_nil _ _ _ _, Below.refl _ _⟩

set_option maxRecDepth 100000 in
set_option maxHeartbeats 400000 in
theorem GetInt_some {A : Option Addr} {c : Nat} {l : List UInt8} {w : World} (hr : Row w w.heap.size A (bvs l)) (hc : l.length ≤ c) (hl : l.length ≤ 1073741824) {n : Int} {r : List UInt8} (h : getI l = some (n, r)) :
    Calls Tryz.prog 128 #[.slice A l.length c] w (Got (.int .i64 n) r true w) := by
  obtain ⟨k, hg, rfl⟩ : ∃ k, geti l = some (n, k) ∧ r = l.drop k := by
    cases hq : geti l with
    | none => rw [getI_none hq] at h; cases h
    | some p => rw [getI_some hq] at h; simp only [Option.some.injEq, Prod.mk.injEq] at h; exact ⟨p.2, by rw [← h.1], h.2.symm⟩
  have hk := (geti_bounds hg).1
  have HC := hide (integer_some (c := c) hr rfl (by omega) hg)
  clear h hg
  go_enter Tryz.func128, Tryz.ntmps128
  go_wp2_with fail
  refine HC.out.mono ?_
  rintro e w1 ⟨rfl, rfl⟩
  go_wp2_with fail
  refine (rest_any A c l k w hr hk hc hl).mono ?_
  rintro e w1 ⟨v1, rfl, hown, hb⟩
  go_wp2_with fail
  go_ret3
  exact ⟨_, rfl, hown, hb⟩


set_option maxRecDepth 100000 in
set_option maxHeartbeats 400000 in
theorem word_none {B : Nat} {A : Option Addr} {n c : Nat} {l : List UInt8} {w : World} (hr : Row w B A (bvs l)) (hn : l.length = n) (hl : n ≤ 1073741824) (h : getw l = none) :
    Calls Tryz.prog 166 #[.slice A n c] w (fun e w' => e = .returned (.tuple #[.string (str []), .int .i64 0, .bool false]) ∧ w = w') := by
  subst hn
  cases hg : geti l with
  | none =>
    have HC := hide (integer_none (c := c) hr rfl (by omega) hg)
    clear h hg
    go_enter Tryz.func166, Tryz.ntmps166
    go_wp2_with fail
    refine HC.out.mono ?_
    rintro e w1 ⟨rfl, rfl⟩
    go_wp2_with fail
    go_ret3
    exact ⟨rfl, rfl⟩
  | some p =>
    obtain ⟨x, k⟩ := p
    have hk := (geti_bounds hg).1
    have hbad : x < 0 ∨ ((l.length - k : Nat) : Int) < x := Decidable.byContradiction fun hb => by rw [getw_some hg hb] at h; cases h
    have HC := hide (integer_some (c := c) hr rfl (by omega) hg)
    clear h hg
    by_cases hx : x < 0
    · clear hbad
      go_enter Tryz.func166, Tryz.ntmps166
      go_wp2_with fail
      refine HC.out.mono ?_
      rintro e w1 ⟨rfl, rfl⟩
      go_wp2_with fail
      go_ret3
      exact ⟨rfl, rfl⟩
    · have hbig : (l.length : Int) - (k : Int) < x := by omega
      clear hbad
      go_enter Tryz.func166, Tryz.ntmps166
      go_wp2_with fail
      refine HC.out.mono ?_
      rintro e w1 ⟨rfl, rfl⟩
      go_wp2_with fail
      go_ret3
      exact ⟨rfl, rfl⟩

set_option maxRecDepth 100000 in
set_option maxHeartbeats 400000 in
theorem word_some {B : Nat} {A : Option Addr} {n c : Nat} {l : List UInt8} {w : World} (hr : Row w B A (bvs l)) (hn : l.length = n) (hc : n ≤ c) (hl : n ≤ 1073741824) {s : List UInt8} {q : Nat} (h : getw l = some (s, q)) :
    Calls Tryz.prog 166 #[.slice A n c] w (fun e w' => e = .returned (.tuple #[.string (str s), .int .i64 (q : Int), .bool true]) ∧ w = w') := by
  subst hn
  cases hg : geti l with
  | none => rw [getw_none hg] at h; cases h
  | some p =>
    obtain ⟨x, k⟩ := p
    have hk := (geti_bounds hg).1
    have hgood : ¬ (x < 0 ∨ ((l.length - k : Nat) : Int) < x) := fun hb => by rw [getw_bad hg hb] at h; cases h
    rw [getw_some hg hgood] at h
    simp only [Option.some.injEq, Prod.mk.injEq] at h
    obtain ⟨rfl, rfl⟩ := h
    have HC := hide (integer_some (c := c) hr rfl (by omega) hg)
    obtain ⟨m, rfl⟩ := Int.eq_ofNat_of_zero_le (show 0 ≤ x by omega)
    have hm : (m : Int) ≤ (l.length : Int) - (k : Int) := by omega
    have hrun := run_mid elemB A l.length c k (k + m) (by omega) (by omega)
    have ecast : ((k + m : Nat) : Int) = (k : Int) + (m : Int) := by omega
    rw [ecast, show k + m - k = m from by omega] at hrun
    have hr' := (hr.cutA (size := 1) (k := k) (c := c) (by simp [bvs]) hc).take m
    have e1 : ((bvs l).drop (k * 1)).take m = bvs ((l.drop k).take m) := by simp [bvs]
    rw [e1] at hr'
    have hm' : ((l.drop k).take m).length = m := by rw [List.length_take, List.length_drop]; omega
    have hconv := run_string (P := Tryz.prog) w 48 9 5 Tryz.underlying48 Tryz.underlying5 Tryz.underlying9 (c := c - k) hr' hm' (fun h => by rw [← hm']; exact row_none hr' h)
    rw [Int.toNat_natCast]
    generalize hs0 : (l.drop k).take m = s0 at hconv
    have HS0 := hide hs0
    have ECAST := hide ecast; clear hgood hg ecast e1 hm' hr' hs0
    go_enter Tryz.func166, Tryz.ntmps166
    go_wp2_with fail
    refine HC.out.mono ?_
    rintro e w1 ⟨rfl, rfl⟩
    go_wp2_with fail
    go_ret3
    exact ⟨by rw [ECAST.out]; rfl, rfl⟩

set_option maxRecDepth 100000 in
set_option maxHeartbeats 400000 in
theorem GetText_none {A : Option Addr} {c : Nat} {l : List UInt8} {w : World} (hr : Row w w.heap.size A (bvs l)) (hl : l.length ≤ 1073741824) (h : getS l = none) :
    Calls Tryz.prog 129 #[.slice A l.length c] w (Got (.string (str [])) [] false w) := by
  have hg : getw l = none := by
    cases hq : getw l with
    | none => rfl
    | some p => rw [getS_some hq] at h; cases h
  have HC := hide (word_none (c := c) hr rfl (by omega) hg)
  clear h hg
  go_enter Tryz.func129, Tryz.ntmps129
  go_wp2_with fail
  refine HC.out.mono ?_
  rintro e w1 ⟨rfl, rfl⟩
  go_wp2_with fail
  go_ret3
  exact ⟨_, rfl, World.ownsRow_nil _ _ _ _, Below.refl _ _⟩

set_option maxRecDepth 100000 in
set_option maxHeartbeats 400000 in
theorem GetText_some {A : Option Addr} {c : Nat} {l : List UInt8} {w : World} (hr : Row w w.heap.size A (bvs l)) (hc : l.length ≤ c) (hl : l.length ≤ 1073741824) {s r : List UInt8} (h : getS l = some (s, r)) :
    Calls Tryz.prog 129 #[.slice A l.length c] w (Got (.string (str s)) r true w) := by
  obtain ⟨k, hg, rfl⟩ : ∃ k, getw l = some (s, k) ∧ r = l.drop k := by
    cases hq : getw l with
    | none => rw [getS_none hq] at h; cases h
    | some p => rw [getS_some hq] at h; simp only [Option.some.injEq, Prod.mk.injEq] at h; exact ⟨p.2, by rw [← h.1], h.2.symm⟩
  have hk := (getw_bounds hg).1
  have HC := hide (word_some (c := c) hr rfl hc (by omega) hg)
  clear h hg
  go_enter Tryz.func129, Tryz.ntmps129
  go_wp2_with fail
  refine HC.out.mono ?_
  rintro e w1 ⟨rfl, rfl⟩
  go_wp2_with fail
  refine (rest_any A c l k w hr hk hc hl).mono ?_
  rintro e w1 ⟨v1, rfl, hown, hb⟩
  go_wp2_with fail
  go_ret3
  exact ⟨_, rfl, hown, hb⟩

end Go.Proofs.YtnfbmhkjmkdmjaaGreat

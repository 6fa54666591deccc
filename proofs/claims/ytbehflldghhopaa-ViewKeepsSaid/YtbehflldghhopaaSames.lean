/-
  Reference: Same of numbers, of texts, of levels, of contents, of events, of lists of events.
-/
import Derived.Test.YtbehflldghhopaaAggs
import Derived.Test.YtbehflldghhopaaEv
import Derived.Test.YtbehflldghhopaaRows
import Derived.Deep.QuietTactic
import Derived.BigQuiet
set_option linter.unusedVariables false
set_option linter.unusedSimpArgs false
namespace Go.Proofs.Ytbehflldghhopaa
open Go.RowKit
attribute [local go_sem] Addr.add_mid

theorem take_eq_step {α : Type} {l m : List α} {k : Nat} (h : l.take k = m.take k) (h1 : k < l.length) (h2 : k < m.length) (he : l[k] = m[k]) : l.take (k + 1) = m.take (k + 1) := by
  rw [List.take_succ_eq_append_getElem h1, List.take_succ_eq_append_getElem h2, h, he]
theorem take_eq_fin {α : Type} {l m : List α} (h : l.take l.length = m.take l.length) (hl : l.length = m.length) : l = m := by
  rw [List.take_length, hl, List.take_length] at h; exact h
theorem ne_of_get {α : Type} {l m : List α} {k : Nat} (h1 : k < l.length) (h2 : k < m.length) (he : l[k] ≠ m[k]) : l ≠ m := by
  rintro rfl; exact he rfl

theorem str_eq_of {a b : ByteArray} (h : a.toList = b.toList) : a = b := by
  rw [ByteArray.toList_eq, ByteArray.toList_eq] at h
  cases a; cases b; simp at h; simp [h]
theorem str_ne {a b : ByteArray} (h : a ≠ b) : (a.toList == b.toList) = false := by
  rw [beq_eq_false_iff_ne]; exact fun e => h (str_eq_of e)
theorem str_yes {a b : ByteArray} (h : a = b) : (a.toList == b.toList) = true := by rw [h]; simp
/-- a Bool comes back, and only draws -/
def Asks (b : Bool) (w : World) (e : Ending) (w' : World) : Prop := e = .returned (.bool b) ∧ ∃ n, w' = w.drewN n
theorem asks_mk {b c : Bool} {w : World} (n : Nat) (h : c = b) : Asks b w (.returned (.bool c)) (w.drewN n) := by subst h; exact ⟨rfl, n, rfl⟩
theorem asks_mk2 {b c : Bool} {w : World} (n m : Nat) (h : c = b) : Asks b w (.returned (.bool c)) ((w.drewN n).drewN m) := by subst h; exact ⟨rfl, n + m, World.drewN_drewN w n m⟩
theorem asks_mk0 {b c : Bool} {w : World} (h : c = b) : Asks b w (.returned (.bool c)) w := by subst h; exact ⟨rfl, 0, rfl⟩
/-- a Bool comes back, no old block has turned -/
def Says (b : Bool) (w : World) (e : Ending) (w' : World) : Prop := e = .returned (.bool b) ∧ Below w.heap.size w w'

set_option maxRecDepth 100000 in
set_option maxHeartbeats 400000 in
theorem R1Same_any {B B2 : Nat} {A A2 : Option Addr} {c c2 : Nat} {l m : List Int} {w : World} (hr : Row w B A (ivs l)) (hr2 : Row w B2 A2 (ivs m)) (hl : l.length ≤ 1073741824) (hm : m.length ≤ 1073741824) :
    Calls Try.prog 14 #[.slice A l.length c, .slice A2 m.length c2] w (Asks (decide (l = m)) w) := by
  by_cases hlm : l.length = m.length
  · have hx : ((l.length : Int) != (m.length : Int)) = false := by rw [hlm]; simp
    have HLM := hide hlm
    go_enter Try.func14, Try.ntmps14
    clear hlm
    go_wp2_with fail
    clear hx
    go_loopw [5] (fun i wr => ∃ k n : Nat, k ≤ l.length ∧ i = .int .i64 (k : Int) ∧ l.take k = m.take k ∧ wr = w.drewN n) (fun i _ => l.length - (intOf i).toNat)
    case atStart => exact ⟨0, 0, Nat.zero_le _, rfl, rfl, rfl⟩
    case round =>
      obtain ⟨k, n, hk, rfl, ht, rfl⟩ := hrel
      have HT := hide ht; clear ht
      by_cases hlt : k < l.length
      · have hlt2 : k < m.length := by rw [← HLM.out]; exact hlt
        obtain ⟨ad, rfl, _, hcell⟩ := hr.at (ivs_get l k hlt)
        obtain ⟨ad2, rfl, _, hcell2⟩ := hr2.at (ivs_get m k hlt2)
        have i0 : (0 : Int) ≤ (k : Int) := by omega
        have i1 : (k : Int) < (l.length : Int) := by omega
        have i2 : (k : Int) < (m.length : Int) := by omega
        have HE := hide (fun h : l[k] = m[k] => take_eq_step HT.out hlt hlt2 h)
        have HN := hide (fun h : l[k] ≠ m[k] => ne_of_get hlt hlt2 h)
        by_cases he : l[k] = m[k]
        · have HE' := hide (HE.out he)
          have hb : (l[k] != m[k]) = false := by rw [he]; simp
          clear he HE HN
          go_wp2_with fail
          go_quiet (fail)
          go_wp2_with fail
          go_roundw
          case rel => exact ⟨k + 1, _, by omega, by go_num, HE'.out, rfl⟩
          case measure => simp [intOf]; omega
        · have HN' := hide (HN.out he)
          have hb : (l[k] != m[k]) = true := by simpa using he
          clear he HE HN
          go_wp2_with fail
          go_quiet (fail)
          go_wp2_with fail
          go_ret
          exact asks_mk2 _ _ (decide_eq_false HN'.out).symm
      · obtain rfl : k = l.length := by omega
        have HF := hide (take_eq_fin HT.out HLM.out)
        go_wp2_with fail
        go_ret
        exact asks_mk _ (decide_eq_true HF.out).symm
  · have hx : ((l.length : Int) != (m.length : Int)) = true := by simp; omega
    have HN := hide (fun h : l = m => hlm (by rw [h]))
    clear hlm
    go_enter Try.func14, Try.ntmps14
    go_wp2_with fail
    go_ret
    exact asks_mk0 (decide_eq_false HN.out).symm
set_option maxRecDepth 100000 in
set_option maxHeartbeats 400000 in
theorem R6Texts_any {B B2 : Nat} {A A2 : Option Addr} {c c2 : Nat} {l m : List ByteArray} {w : World} (hr : Row w B A (svs l)) (hr2 : Row w B2 A2 (svs m)) (hl : l.length ≤ 1073741824) (hm : m.length ≤ 1073741824) :
    Calls Try.prog 56 #[.slice A l.length c, .slice A2 m.length c2] w (Asks (decide (l = m)) w) := by
  by_cases hlm : l.length = m.length
  · have hx : ((l.length : Int) != (m.length : Int)) = false := by rw [hlm]; simp
    have HLM := hide hlm
    go_enter Try.func56, Try.ntmps56
    clear hlm
    go_wp2_with fail
    clear hx
    go_loopw [5] (fun i wr => ∃ k n : Nat, k ≤ l.length ∧ i = .int .i64 (k : Int) ∧ l.take k = m.take k ∧ wr = w.drewN n) (fun i _ => l.length - (intOf i).toNat)
    case atStart => exact ⟨0, 0, Nat.zero_le _, rfl, rfl, rfl⟩
    case round =>
      obtain ⟨k, n, hk, rfl, ht, rfl⟩ := hrel
      have HT := hide ht; clear ht
      by_cases hlt : k < l.length
      · have hlt2 : k < m.length := by rw [← HLM.out]; exact hlt
        obtain ⟨ad, rfl, _, hcell⟩ := hr.at (svs_get l k hlt)
        obtain ⟨ad2, rfl, _, hcell2⟩ := hr2.at (svs_get m k hlt2)
        have i0 : (0 : Int) ≤ (k : Int) := by omega
        have i1 : (k : Int) < (l.length : Int) := by omega
        have i2 : (k : Int) < (m.length : Int) := by omega
        have HE := hide (fun h : l[k] = m[k] => take_eq_step HT.out hlt hlt2 h)
        have HN := hide (fun h : l[k] ≠ m[k] => ne_of_get hlt hlt2 h)
        by_cases he : l[k] = m[k]
        · have HE' := hide (HE.out he)
          have hb : (l[k].toList == m[k].toList) = true := by rw [he]; simp
          clear he HE HN
          go_wp2_with fail
          go_quiet (fail)
          go_wp2_with fail
          go_roundw
          case rel => exact ⟨k + 1, _, by omega, by go_num, HE'.out, rfl⟩
          case measure => simp [intOf]; omega
        · have HN' := hide (HN.out he)
          have hb : (l[k].toList == m[k].toList) = false := str_ne he
          clear he HE HN
          go_wp2_with fail
          go_quiet (fail)
          go_wp2_with fail
          go_ret
          exact asks_mk2 _ _ (decide_eq_false HN'.out).symm
      · obtain rfl : k = l.length := by omega
        have HF := hide (take_eq_fin HT.out HLM.out)
        go_wp2_with fail
        go_ret
        exact asks_mk _ (decide_eq_true HF.out).symm
  · have hx : ((l.length : Int) != (m.length : Int)) = true := by simp; omega
    have HN := hide (fun h : l = m => hlm (by rw [h]))
    clear hlm
    go_enter Try.func56, Try.ntmps56
    go_wp2_with fail
    go_ret
    exact asks_mk0 (decide_eq_false HN.out).symm

/-- the cells of a block, whatever its new number -/
theorem levCells_get (l : Lev) (vu vk : Value) : (levCells l vu vk).toArray = #[vu, vk, .int .i64 l.user, .int .i64 l.message, .int .i64 l.state, .int .i64 l.invite, .int .i64 l.kick, .int .i64 l.ban, .int .i64 l.redact] := rfl

theorem lev_decide {l m : Lev} (hu : l.users = m.users) (hk : l.kinds = m.kinds) : decide (l = m) = (l.user == m.user && (l.message == m.message && (l.state == m.state && (l.invite == m.invite && (l.kick == m.kick && (l.ban == m.ban && l.redact == m.redact)))))) := by
  obtain ⟨a, b, c, d, e, f, g, h, i⟩ := l
  obtain ⟨a', b', c', d', e', f', g', h', i'⟩ := m
  obtain rfl : a = a' := hu
  obtain rfl : b = b' := hk
  rw [Bool.eq_iff_iff]
  simp

set_option maxRecDepth 100000 in
set_option maxHeartbeats 1000000 in
theorem R6Levels_any {S S2 : Nat → Prop} {cs cs2 : List Value} {l m : Lev} {w : World} (hr : LevR w S cs l) (hr2 : LevR w S2 cs2 m) (hl : l.users.length ≤ 1073741824 ∧ l.kinds.length ≤ 1073741824) (hm : m.users.length ≤ 1073741824 ∧ m.kinds.length ≤ 1073741824) :
    Calls Try.prog 57 #[.agg cs.toArray, .agg cs2.toArray] w (Says (decide (l = m)) w) := by
  obtain ⟨vu, vk, rfl, hu, hk⟩ := hr
  obtain ⟨vu2, vk2, rfl, hu2, hk2⟩ := hr2
  obtain ⟨A1, c1, rfl, _, _, _, hu, _⟩ := hu.form
  obtain ⟨A2, c2, rfl, _, _, _, hk, _⟩ := hk.form
  obtain ⟨A3, c3, rfl, _, _, _, hu2, _⟩ := hu2.form
  obtain ⟨A4, c4, rfl, _, _, _, hk2, _⟩ := hk2.form
  obtain ⟨hl1, hl2⟩ := hl
  obtain ⟨hm1, hm2⟩ := hm
  rw [levCells_get, levCells_get]
  by_cases e1 : l.users.length = m.users.length
  · have E1 := hide e1
    have t1 : ((l.users.length : Int) != (m.users.length : Int)) = false := by rw [e1]; simp
    by_cases e2 : l.kinds.length = m.kinds.length
    · have E2 := hide e2
      have t2 : ((l.kinds.length : Int) != (m.kinds.length : Int)) = false := by rw [e2]; simp
      clear e1 e2
      go_enter Try.func57, Try.ntmps57
      go_wp2_with fail
      clear t1 t2
      go_loopw [5] (fun i wr => ∃ k n : Nat, k ≤ l.users.length ∧ i = .int .i64 (k : Int) ∧ l.users.take k = m.users.take k ∧ wr = ((w.alloc (.cells (levCells l (.slice A1 l.users.length c1) (.slice A2 l.kinds.length c2)).toArray 62)).alloc (.cells (levCells m (.slice A3 m.users.length c3) (.slice A4 m.kinds.length c4)).toArray 62)).drewN n) (fun i _ => l.users.length - (intOf i).toNat)
      case atStart => exact ⟨0, 0, Nat.zero_le _, rfl, rfl, rfl⟩
      case round =>
        obtain ⟨k, n, hk0, rfl, ht, rfl⟩ := hrel
        rw [levCells_get, levCells_get]
        have HT := hide ht; clear ht
        by_cases hlt : k < l.users.length
        · have hlt2 : k < m.users.length := by rw [← E1.out]; exact hlt
          obtain ⟨b1, o1, rfl, hb1, hc⟩ := hu.fix (ucs_get l.users k hlt).1
          have hcell := hc _ _ (ucs_get l.users k hlt).1
          have hcell' := cell_assoc (hc _ _ (ucs_get l.users k hlt).2)
          obtain ⟨b2, o2, rfl, hb2, hc2⟩ := hu2.fix (ucs_get m.users k hlt2).1
          have hcell2 := hc2 _ _ (ucs_get m.users k hlt2).1
          have hcell2' := cell_assoc (hc2 _ _ (ucs_get m.users k hlt2).2)
          clear hc hc2
          have i0 : (0 : Int) ≤ (k : Int) := by omega
          have i1 : (k : Int) < (l.users.length : Int) := by omega
          have i2 : (k : Int) < (m.users.length : Int) := by omega
          clear hu hu2
          have HE := hide (fun h : l.users[k] = m.users[k] => take_eq_step HT.out hlt hlt2 h)
          have HN := hide (fun h : l.users[k] ≠ m.users[k] => fun e : l = m => ne_of_get hlt hlt2 h (by rw [e]))
          obtain ⟨x, hx⟩ : ∃ x, x = l.users[k] := ⟨_, rfl⟩
          obtain ⟨y, hy⟩ : ∃ y, y = m.users[k] := ⟨_, rfl⟩
          rw [← hx] at hcell hcell' HE HN
          rw [← hy] at hcell2 hcell2' HE HN
          clear hx hy
          obtain ⟨x1, x2⟩ := x
          obtain ⟨y1, y2⟩ := y
          by_cases hs : x1 = y1
          · have t1 := str_yes hs
            by_cases hn : x2 = y2
            · have HE' := hide (HE.out (by rw [hs, hn]))
              have t2 : (x2 != y2) = false := by rw [hn]; simp
              clear hs hn HE HN
              go_wp2_with fail
              go_quiet (fail)
              go_wp2_with fail
              go_roundw
              case rel => exact ⟨k + 1, _, by omega, by go_num, HE'.out, rfl⟩
              case measure => simp [intOf]; omega
            · have HN' := hide (HN.out (by simp [hn]))
              have t2 : (x2 != y2) = true := by simpa using hn
              clear hs hn HE HN
              go_wp2_with fail
              go_quiet (fail)
              go_wp2_with fail
              go_ret
              exact ⟨by rw [decide_eq_false HN'.out]; rfl, below_drewN (below_drewN (ext_alloc (ext_alloc (ext_refl w) _) _) _) _⟩
          · have HN' := hide (HN.out (by simp [hs]))
            have t1 := str_ne hs
            clear hs HE HN
            go_wp2_with fail
            go_quiet (fail)
            go_wp2_with fail
            go_ret
            exact ⟨by rw [decide_eq_false HN'.out]; rfl, below_drewN (below_drewN (ext_alloc (ext_alloc (ext_refl w) _) _) _) _⟩
        · obtain rfl : k = l.users.length := by omega
          have HU := hide (take_eq_fin HT.out E1.out)
          clear hu hu2 HT
          go_wp2_with fail
          go_loopw [6] (fun i wr => ∃ k n' : Nat, k ≤ l.kinds.length ∧ i = .int .i64 (k : Int) ∧ l.kinds.take k = m.kinds.take k ∧ wr = ((w.alloc (.cells (levCells l (.slice A1 l.users.length c1) (.slice A2 l.kinds.length c2)).toArray 62)).alloc (.cells (levCells m (.slice A3 m.users.length c3) (.slice A4 m.kinds.length c4)).toArray 62)).drewN n') (fun i _ => l.kinds.length - (intOf i).toNat)
          case atStart => exact ⟨0, n, Nat.zero_le _, rfl, rfl, rfl⟩
          case round =>
            obtain ⟨k, n', hk0, rfl, ht, rfl⟩ := hrel
            rw [levCells_get, levCells_get]
            have HT := hide ht; clear ht
            by_cases hlt : k < l.kinds.length
            · have hlt2 : k < m.kinds.length := by rw [← E2.out]; exact hlt
              obtain ⟨b1, o1, rfl, hb1, hc⟩ := hk.fix (kcs_get l.kinds k hlt).1
              have hcell := hc _ _ (kcs_get l.kinds k hlt).1
              have hcell' := cell_assoc (hc _ _ (kcs_get l.kinds k hlt).2)
              obtain ⟨b2, o2, rfl, hb2, hc2⟩ := hk2.fix (kcs_get m.kinds k hlt2).1
              have hcell2 := hc2 _ _ (kcs_get m.kinds k hlt2).1
              have hcell2' := cell_assoc (hc2 _ _ (kcs_get m.kinds k hlt2).2)
              clear hc hc2
              have i0 : (0 : Int) ≤ (k : Int) := by omega
              have i1 : (k : Int) < (l.kinds.length : Int) := by omega
              have i2 : (k : Int) < (m.kinds.length : Int) := by omega
              clear hk hk2
              have HE := hide (fun h : l.kinds[k] = m.kinds[k] => take_eq_step HT.out hlt hlt2 h)
              have HN := hide (fun h : l.kinds[k] ≠ m.kinds[k] => fun e : l = m => ne_of_get hlt hlt2 h (by rw [e]))
              obtain ⟨x, hx⟩ : ∃ x, x = l.kinds[k] := ⟨_, rfl⟩
              obtain ⟨y, hy⟩ : ∃ y, y = m.kinds[k] := ⟨_, rfl⟩
              rw [← hx] at hcell hcell' HE HN
              rw [← hy] at hcell2 hcell2' HE HN
              clear hx hy
              obtain ⟨x1, x2⟩ := x
              obtain ⟨y1, y2⟩ := y
              by_cases hs : x1 = y1
              · have t1 : (x1 != y1) = false := by rw [hs]; simp
                by_cases hn : x2 = y2
                · have HE' := hide (HE.out (by rw [hs, hn]))
                  have t2 : (x2 != y2) = false := by rw [hn]; simp
                  clear hs hn HE HN
                  go_wp2_with fail
                  go_quiet (fail)
                  go_wp2_with fail
                  go_roundw
                  case rel => exact ⟨k + 1, _, by omega, by go_num, HE'.out, rfl⟩
                  case measure => simp [intOf]; omega
                · have HN' := hide (HN.out (by simp [hn]))
                  have t2 : (x2 != y2) = true := by simpa using hn
                  clear hs hn HE HN
                  go_wp2_with fail
                  go_quiet (fail)
                  go_wp2_with fail
                  go_ret
                  exact ⟨by rw [decide_eq_false HN'.out]; rfl, below_drewN (below_drewN (ext_alloc (ext_alloc (ext_refl w) _) _) _) _⟩
              · have HN' := hide (HN.out (by simp [hs]))
                have t1 : (x1 != y1) = true := by simpa using hs
                clear hs HE HN
                go_wp2_with fail
                go_quiet (fail)
                go_wp2_with fail
                go_ret
                exact ⟨by rw [decide_eq_false HN'.out]; rfl, below_drewN (below_drewN (ext_alloc (ext_alloc (ext_refl w) _) _) _) _⟩
            · obtain rfl : k = l.kinds.length := by omega
              have HK := hide (take_eq_fin HT.out E2.out)
              clear hk hk2 HT
              have HD : Hid (decide (l = m) = (l.user == m.user && (l.message == m.message && (l.state == m.state && (l.invite == m.invite && (l.kick == m.kick && (l.ban == m.ban && l.redact == m.redact))))))) := lev_decide HU.out HK.out
              go_wp2_with fail
              all_goals
                go_ret
                refine ⟨?_, below_drewN (ext_alloc (ext_alloc (ext_refl w) _) _) _⟩
                rw [HD.out]
                simp [*]
    · have t2 : ((l.kinds.length : Int) != (m.kinds.length : Int)) = true := by simp; omega
      have HN := hide (fun h : l = m => e2 (by rw [h]))
      clear e1 e2
      go_enter Try.func57, Try.ntmps57
      go_wp2_with fail
      go_ret
      exact ⟨by rw [decide_eq_false HN.out]; rfl, ext_alloc (ext_alloc (ext_refl w) _) _⟩
  · have t1 : ((l.users.length : Int) != (m.users.length : Int)) = true := by simp; omega
    have HN := hide (fun h : l = m => e1 (by rw [h]))
    clear e1
    go_enter Try.func57, Try.ntmps57
    go_wp2_with fail
    go_ret
    exact ⟨by rw [decide_eq_false HN.out]; rfl, ext_alloc (ext_alloc (ext_refl w) _) _⟩
end Go.Proofs.Ytbehflldghhopaa

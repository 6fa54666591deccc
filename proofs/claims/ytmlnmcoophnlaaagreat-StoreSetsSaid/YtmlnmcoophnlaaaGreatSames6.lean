/-
  Reference: Same of numbers, of texts, of levels, of contents, of events, of lists of events.
-/
import Derived.Test.YtmlnmcoophnlaaaGreatAggs
import Derived.Test.YtmlnmcoophnlaaaGreatEv
import Derived.Test.YtmlnmcoophnlaaaGreatRows
import Derived.Deep.QuietTactic
import Derived.BigQuiet
import Derived.Deep.RegionHeld3
set_option linter.unusedVariables false
set_option linter.unusedSimpArgs false
namespace Go.Proofs.YtmlnmcoophnlaaaGreat
open Go.RowKit
attribute [local go_sem] Addr.add_mid

theorem take_eq_step {α : Type} {l m : List α} {k : Nat} (h : l.take k = m.take k) (h1 : k < l.length) (h2 : k < m.length) (he : l[k] = m[k]) : l.take (k + 1) = m.take (k + 1) := by
  rw [List.take_succ_eq_append_getElem h1, List.take_succ_eq_append_getElem h2, h, he]
theorem take_eq_fin {α : Type} {l m : List α} (h : l.take l.length = m.take l.length) (hl : l.length = m.length) : l = m := by
  rw [List.take_length, hl, List.take_length] at h; exact h
theorem ne_of_get {α : Type} {l m : List α} {k : Nat} (h1 : k < l.length) (h2 : k < m.length) (he : l[k] ≠ m[k]) : l ≠ m := by
  rintro rfl; exact he rfl

theorem str_eq_of {a b : ByteArray} (h : a.toList = b.toList) : a = b := by
  rw [ByteArray.toList_eq, ByteArray.toList_eq] at h
  cases a; cases b; simp at h; simp [h]
theorem str_ne {a b : ByteArray} (h : a ≠ b) : (a.toList == b.toList) = false := by
  rw [beq_eq_false_iff_ne]; exact fun e => h (str_eq_of e)
theorem str_yes {a b : ByteArray} (h : a = b) : (a.toList == b.toList) = true := by rw [h]; simp
/-- a Bool comes back, and only draws -/
def Asks (b : Bool) (w : World) (e : Ending) (w' : World) : Prop := e = .returned (.bool b) ∧ ∃ n, w' = w.drewN n
theorem asks_mk {b c : Bool} {w : World} (n : Nat) (h : c = b) : Asks b w (.returned (.bool c)) (w.drewN n) := by subst h; exact ⟨rfl, n, rfl⟩
theorem asks_mk2 {b c : Bool} {w : World} (n m : Nat) (h : c = b) : Asks b w (.returned (.bool c)) ((w.drewN n).drewN m) := by subst h; exact ⟨rfl, n + m, World.drewN_drewN w n m⟩
theorem asks_mk0 {b c : Bool} {w : World} (h : c = b) : Asks b w (.returned (.bool c)) w := by subst h; exact ⟨rfl, 0, rfl⟩
/-- a Bool comes back, no old block has turned -/
def Says (b : Bool) (w : World) (e : Ending) (w' : World) : Prop := e = .returned (.bool b) ∧ Below w.heap.size w w'

set_option maxRecDepth 100000 in
set_option maxHeartbeats 400000 in
theorem R6Texts_any {B B2 : Nat} {A A2 : Option Addr} {c c2 : Nat} {l m : List ByteArray} {w : World} (hr : Row w B A (svs l)) (hr2 : Row w B2 A2 (svs m)) (hl : l.length ≤ 1073741824) (hm : m.length ≤ 1073741824) :
    Calls Tryz.prog 55 #[.slice A l.length c, .slice A2 m.length c2] w (Asks (decide (l = m)) w) := by
  by_cases hlm : l.length = m.length
  · have hx : ((l.length : Int) != (m.length : Int)) = false := by rw [hlm]; simp
    have HLM := hide hlm
    go_enter Tryz.func55, Tryz.ntmps55
    clear hlm
    go_wp2_with fail
    clear hx
    go_loopw [5] (fun i wr => ∃ k n : Nat, k ≤ l.length ∧ i = .int .i64 (k : Int) ∧ l.take k = m.take k ∧ wr = w.drewN n) (fun i _ => l.length - (intOf i).toNat)
    case atStart => exact ⟨0, 0, Nat.zero_le _, rfl, rfl, rfl⟩
    case round =>
      obtain ⟨k, n, hk, rfl, ht, rfl⟩ := hrel
      have HT := hide ht; clear ht
      by_cases hlt : k < l.length
      · have hlt2 : k < m.length := by rw [← HLM.out]; exact hlt
        obtain ⟨ad, rfl, _, hcell⟩ := hr.at (svs_get l k hlt)
        obtain ⟨ad2, rfl, _, hcell2⟩ := hr2.at (svs_get m k hlt2)
        have i0 : (0 : Int) ≤ (k : Int) := by omega
        have i1 : (k : Int) < (l.length : Int) := by omega
        have i2 : (k : Int) < (m.length : Int) := by omega
        have HE := hide (fun h : l[k] = m[k] => take_eq_step HT.out hlt hlt2 h)
        have HN := hide (fun h : l[k] ≠ m[k] => ne_of_get hlt hlt2 h)
        by_cases he : l[k] = m[k]
        · have HE' := hide (HE.out he)
          have hb : (l[k].toList == m[k].toList) = true := by rw [he]; simp
          clear he HE HN
          go_wp2_with fail
          go_quiet (fail)
          go_wp2_with fail
          go_roundw
          case rel => exact ⟨k + 1, _, by omega, by go_num, HE'.out, rfl⟩
          case measure => simp [intOf]; omega
        · have HN' := hide (HN.out he)
          have hb : (l[k].toList == m[k].toList) = false := str_ne he
          clear he HE HN
          go_wp2_with fail
          go_quiet (fail)
          go_wp2_with fail
          go_ret
          exact asks_mk2 _ _ (decide_eq_false HN'.out).symm
      · obtain rfl : k = l.length := by omega
        have HF := hide (take_eq_fin HT.out HLM.out)
        go_wp2_with fail
        go_ret
        exact asks_mk _ (decide_eq_true HF.out).symm
  · have hx : ((l.length : Int) != (m.length : Int)) = true := by simp; omega
    have HN := hide (fun h : l = m => hlm (by rw [h]))
    clear hlm
    go_enter Tryz.func55, Tryz.ntmps55
    go_wp2_with fail
    go_ret
    exact asks_mk0 (decide_eq_false HN.out).symm

/-- the cells of a block, whatever its new number -/
theorem levCells_get (l : Lev) (vu vk : Value) : (levCells l vu vk).toArray = #[vu, vk, .int .i64 l.user, .int .i64 l.message, .int .i64 l.state, .int .i64 l.invite, .int .i64 l.kick, .int .i64 l.ban, .int .i64 l.redact] := rfl

theorem lev_decide {l m : Lev} (hu : l.users = m.users) (hk : l.kinds = m.kinds) : decide (l = m) = (l.user == m.user && (l.message == m.message && (l.state == m.state && (l.invite == m.invite && (l.kick == m.kick && (l.ban == m.ban && l.redact == m.redact)))))) := by
  obtain ⟨a, b, c, d, e, f, g, h, i⟩ := l
  obtain ⟨a', b', c', d', e', f', g', h', i'⟩ := m
  obtain rfl : a = a' := hu
  obtain rfl : b = b' := hk
  rw [Bool.eq_iff_iff]
  simp

set_option maxRecDepth 100000 in
set_option maxHeartbeats 1000000 in
theorem R6Levels_any {S S2 : Nat → Prop} {cs cs2 : List Value} {l m : Lev} {w : World} (hr : LevR w S cs l) (hr2 : LevR w S2 cs2 m) (hl : l.users.length ≤ 1073741824 ∧ l.kinds.length ≤ 1073741824) (hm : m.users.length ≤ 1073741824 ∧ m.kinds.length ≤ 1073741824) :
    Calls Tryz.prog 56 #[.agg cs.toArray, .agg cs2.toArray] w (Says (decide (l = m)) w) := by
  obtain ⟨vu, vk, rfl, hu, hk⟩ := hr
  obtain ⟨vu2, vk2, rfl, hu2, hk2⟩ := hr2
  obtain ⟨A1, c1, rfl, _, _, _, hu, _⟩ := hu.form
  obtain ⟨A2, c2, rfl, _, _, _, hk, _⟩ := hk.form
  obtain ⟨A3, c3, rfl, _, _, _, hu2, _⟩ := hu2.form
  obtain ⟨A4, c4, rfl, _, _, _, hk2, _⟩ := hk2.form
  obtain ⟨hl1, hl2⟩ := hl
  obtain ⟨hm1, hm2⟩ := hm
  rw [levCells_get, levCells_get]
  by_cases e1 : l.users.length = m.users.length
  · have E1 := hide e1
    have t1 : ((l.users.length : Int) != (m.users.length : Int)) = false := by rw [e1]; simp
    by_cases e2 : l.kinds.length = m.kinds.length
    · have E2 := hide e2
      have t2 : ((l.kinds.length : Int) != (m.kinds.length : Int)) = false := by rw [e2]; simp
      clear e1 e2
      go_enter Tryz.func56, Tryz.ntmps56
      go_wp2_with fail
      clear t1 t2
      go_loopw [5] (fun i wr => ∃ k n : Nat, k ≤ l.users.length ∧ i = .int .i64 (k : Int) ∧ l.users.take k = m.users.take k ∧ wr = ((w.alloc (.cells (levCells l (.slice A1 l.users.length c1) (.slice A2 l.kinds.length c2)).toArray 29)).alloc (.cells (levCells m (.slice A3 m.users.length c3) (.slice A4 m.kinds.length c4)).toArray 29)).drewN n) (fun i _ => l.users.length - (intOf i).toNat)
      case atStart => exact ⟨0, 0, Nat.zero_le _, rfl, rfl, rfl⟩
      case round =>
        obtain ⟨k, n, hk0, rfl, ht, rfl⟩ := hrel
        rw [levCells_get, levCells_get]
        have HT := hide ht; clear ht
        by_cases hlt : k < l.users.length
        · have hlt2 : k < m.users.length := by rw [← E1.out]; exact hlt
          obtain ⟨b1, o1, rfl, hb1, hc⟩ := hu.fix (ucs_get l.users k hlt).1
          have hcell := hc _ _ (ucs_get l.users k hlt).1
          have hcell' := cell_assoc (hc _ _ (ucs_get l.users k hlt).2)
          obtain ⟨b2, o2, rfl, hb2, hc2⟩ := hu2.fix (ucs_get m.users k hlt2).1
          have hcell2 := hc2 _ _ (ucs_get m.users k hlt2).1
          have hcell2' := cell_assoc (hc2 _ _ (ucs_get m.users k hlt2).2)
          clear hc hc2
          have i0 : (0 : Int) ≤ (k : Int) := by omega
          have i1 : (k : Int) < (l.users.length : Int) := by omega
          have i2 : (k : Int) < (m.users.length : Int) := by omega
          clear hu hu2
          have HE := hide (fun h : l.users[k] = m.users[k] => take_eq_step HT.out hlt hlt2 h)
          have HN := hide (fun h : l.users[k] ≠ m.users[k] => fun e : l = m => ne_of_get hlt hlt2 h (by rw [e]))
          obtain ⟨x, hx⟩ : ∃ x, x = l.users[k] := ⟨_, rfl⟩
          obtain ⟨y, hy⟩ : ∃ y, y = m.users[k] := ⟨_, rfl⟩
          rw [← hx] at hcell hcell' HE HN
          rw [← hy] at hcell2 hcell2' HE HN
          clear hx hy
          obtain ⟨x1, x2⟩ := x
          obtain ⟨y1, y2⟩ := y
          by_cases hs : x1 = y1
          · have t1 := str_yes hs
            by_cases hn : x2 = y2
            · have HE' := hide (HE.out (by rw [hs, hn]))
              have t2 : (x2 != y2) = false := by rw [hn]; simp
              clear hs hn HE HN
              go_wp2_with fail
              go_quiet (fail)
              go_wp2_with fail
              go_roundw
              case rel => exact ⟨k + 1, _, by omega, by go_num, HE'.out, rfl⟩
              case measure => simp [intOf]; omega
            · have HN' := hide (HN.out (by simp [hn]))
              have t2 : (x2 != y2) = true := by simpa using hn
              clear hs hn HE HN
              go_wp2_with fail
              go_quiet (fail)
              go_wp2_with fail
              go_ret
              exact ⟨by rw [decide_eq_false HN'.out]; rfl, below_drewN (below_drewN (ext_alloc (ext_alloc (ext_refl w) _) _) _) _⟩
          · have HN' := hide (HN.out (by simp [hs]))
            have t1 := str_ne hs
            clear hs HE HN
            go_wp2_with fail
            go_quiet (fail)
            go_wp2_with fail
            go_ret
            exact ⟨by rw [decide_eq_false HN'.out]; rfl, below_drewN (below_drewN (ext_alloc (ext_alloc (ext_refl w) _) _) _) _⟩
        · obtain rfl : k = l.users.length := by omega
          have HU := hide (take_eq_fin HT.out E1.out)
          clear hu hu2 HT
          go_wp2_with fail
          go_loopw [6] (fun i wr => ∃ k n' : Nat, k ≤ l.kinds.length ∧ i = .int .i64 (k : Int) ∧ l.kinds.take k = m.kinds.take k ∧ wr = ((w.alloc (.cells (levCells l (.slice A1 l.users.length c1) (.slice A2 l.kinds.length c2)).toArray 29)).alloc (.cells (levCells m (.slice A3 m.users.length c3) (.slice A4 m.kinds.length c4)).toArray 29)).drewN n') (fun i _ => l.kinds.length - (intOf i).toNat)
          case atStart => exact ⟨0, n, Nat.zero_le _, rfl, rfl, rfl⟩
          case round =>
            obtain ⟨k, n', hk0, rfl, ht, rfl⟩ := hrel
            rw [levCells_get, levCells_get]
            have HT := hide ht; clear ht
            by_cases hlt : k < l.kinds.length
            · have hlt2 : k < m.kinds.length := by rw [← E2.out]; exact hlt
              obtain ⟨b1, o1, rfl, hb1, hc⟩ := hk.fix (kcs_get l.kinds k hlt).1
              have hcell := hc _ _ (kcs_get l.kinds k hlt).1
              have hcell' := cell_assoc (hc _ _ (kcs_get l.kinds k hlt).2)
              obtain ⟨b2, o2, rfl, hb2, hc2⟩ := hk2.fix (kcs_get m.kinds k hlt2).1
              have hcell2 := hc2 _ _ (kcs_get m.kinds k hlt2).1
              have hcell2' := cell_assoc (hc2 _ _ (kcs_get m.kinds k hlt2).2)
              clear hc hc2
              have i0 : (0 : Int) ≤ (k : Int) := by omega
              have i1 : (k : Int) < (l.kinds.length : Int) := by omega
              have i2 : (k : Int) < (m.kinds.length : Int) := by omega
              clear hk hk2
              have HE := hide (fun h : l.kinds[k] = m.kinds[k] => take_eq_step HT.out hlt hlt2 h)
              have HN := hide (fun h : l.kinds[k] ≠ m.kinds[k] => fun e : l = m => ne_of_get hlt hlt2 h (by rw [e]))
              obtain ⟨x, hx⟩ : ∃ x, x = l.kinds[k] := ⟨_, rfl⟩
              obtain ⟨y, hy⟩ : ∃ y, y = m.kinds[k] := ⟨_, rfl⟩
              rw [← hx] at hcell hcell' HE HN
              rw [← hy] at hcell2 hcell2' HE HN
              clear hx hy
              obtain ⟨x1, x2⟩ := x
              obtain ⟨y1, y2⟩ := y
              by_cases hs : x1 = y1
              · have t1 : (x1 != y1) = false := by rw [hs]; simp
                by_cases hn : x2 = y2
                · have HE' := hide (HE.out (by rw [hs, hn]))
                  have t2 : (x2 != y2) = false := by rw [hn]; simp
                  clear hs hn HE HN
                  go_wp2_with fail
                  go_quiet (fail)
                  go_wp2_with fail
                  go_roundw
                  case rel => exact ⟨k + 1, _, by omega, by go_num, HE'.out, rfl⟩
                  case measure => simp [intOf]; omega
                · have HN' := hide (HN.out (by simp [hn]))
                  have t2 : (x2 != y2) = true := by simpa using hn
                  clear hs hn HE HN
                  go_wp2_with fail
                  go_quiet (fail)
                  go_wp2_with fail
                  go_ret
                  exact ⟨by rw [decide_eq_false HN'.out]; rfl, below_drewN (below_drewN (ext_alloc (ext_alloc (ext_refl w) _) _) _) _⟩
              · have HN' := hide (HN.out (by simp [hs]))
                have t1 : (x1 != y1) = true := by simpa using hs
                clear hs HE HN
                go_wp2_with fail
                go_quiet (fail)
                go_wp2_with fail
                go_ret
                exact ⟨by rw [decide_eq_false HN'.out]; rfl, below_drewN (below_drewN (ext_alloc (ext_alloc (ext_refl w) _) _) _) _⟩
            · obtain rfl : k = l.kinds.length := by omega
              have HK := hide (take_eq_fin HT.out E2.out)
              clear hk hk2 HT
              have HD : Hid (decide (l = m) = (l.user == m.user && (l.message == m.message && (l.state == m.state && (l.invite == m.invite && (l.kick == m.kick && (l.ban == m.ban && l.redact == m.redact))))))) := lev_decide HU.out HK.out
              go_wp2_with fail
              all_goals
                go_ret
                refine ⟨?_, below_drewN (ext_alloc (ext_alloc (ext_refl w) _) _) _⟩
                rw [HD.out]
                simp [*]
    · have t2 : ((l.kinds.length : Int) != (m.kinds.length : Int)) = true := by simp; omega
      have HN := hide (fun h : l = m => e2 (by rw [h]))
      clear e1 e2
      go_enter Tryz.func56, Tryz.ntmps56
      go_wp2_with fail
      go_ret
      exact ⟨by rw [decide_eq_false HN.out]; rfl, ext_alloc (ext_alloc (ext_refl w) _) _⟩
  · have t1 : ((l.users.length : Int) != (m.users.length : Int)) = true := by simp; omega
    have HN := hide (fun h : l = m => e1 (by rw [h]))
    clear e1
    go_enter Tryz.func56, Tryz.ntmps56
    go_wp2_with fail
    go_ret
    exact ⟨by rw [decide_eq_false HN.out]; rfl, ext_alloc (ext_alloc (ext_refl w) _) _⟩
section
open Go.RowKit
attribute [local go_sem] Addr.add_mid

theorem Row.in {w W : World} {A : Option Addr} {xs : List Value} (h : Row w w.heap.size A xs) (hb : Below w.heap.size w W) : Row W W.heap.size A xs := h.ext hb
theorem below_two (w : World) (o1 o2 : Obj) : Below w.heap.size w ((w.alloc o1).alloc o2) := ext_alloc (ext_alloc (ext_refl w) _) _
theorem below_twoN (w : World) (o1 o2 : Obj) (n : Nat) : Below w.heap.size w (((w.alloc o1).alloc o2).drewN n) := below_drewN (below_two w o1 o2) n
theorem conCells_arr (c : Con) (va vd vu vk : Value) : (conCells c va vd vu vk).toArray = #[.string c.text, .int .i64 c.n, .int .i64 c.target, .bool c.thread, .string c.via, va, vd, vu, vk, .int .i64 c.lv.user, .int .i64 c.lv.message, .int .i64 c.lv.state, .int .i64 c.lv.invite, .int .i64 c.lv.kick, .int .i64 c.lv.ban, .int .i64 c.lv.redact] := rfl
theorem con_decide (a b : Con) : decide (a = b) = (a.text.toList == b.text.toList && (a.n == b.n && (a.target == b.target && (a.thread == b.thread && (a.via.toList == b.via.toList && (decide (a.allow = b.allow) && (decide (a.deny = b.deny) && decide (a.lv = b.lv)))))))) := by
  obtain ⟨a1, a2, a3, a4, a5, a6, a7, a8⟩ := a
  obtain ⟨b1, b2, b3, b4, b5, b6, b7, b8⟩ := b
  rw [Bool.eq_iff_iff]
  simp only [decide_eq_true_eq, Con.mk.injEq, Bool.and_eq_true, beq_iff_eq]
  constructor
  · rintro ⟨rfl, rfl, rfl, rfl, rfl, rfl, rfl, rfl⟩; simp
  · rintro ⟨h1, rfl, rfl, rfl, h2, rfl, rfl, rfl⟩
    exact ⟨str_eq_of h1, rfl, rfl, rfl, str_eq_of h2, rfl, rfl, rfl⟩
/-- lists of a size that a walk can go through -/
def Con.fit (c : Con) : Prop := c.allow.length ≤ 1073741824 ∧ c.deny.length ≤ 1073741824 ∧ c.lv.users.length ≤ 1073741824 ∧ c.lv.kinds.length ≤ 1073741824
theorem texts_in {w W : World} {A A2 : Option Addr} {c c2 : Nat} {l m : List ByteArray} (hb : Below w.heap.size w W) (hr : Row w w.heap.size A (svs l)) (hr2 : Row w w.heap.size A2 (svs m)) (hl : l.length ≤ 1073741824) (hm : m.length ≤ 1073741824) :
    Calls Tryz.prog 55 #[.slice A l.length c, .slice A2 m.length c2] W (Asks (decide (l = m)) W) := R6Texts_any (hr.ext hb) (hr2.ext hb) hl hm

theorem levels_in {w W : World} {S S2 : Nat → Prop} {l m : Lev} {vu vk vu' vk' : Value} (hb : Below w.heap.size w W) (hr : LevR w S (levCells l vu vk) l) (hr2 : LevR w S2 (levCells m vu' vk') m) (hl : l.users.length ≤ 1073741824 ∧ l.kinds.length ≤ 1073741824) (hm : m.users.length ≤ 1073741824 ∧ m.kinds.length ≤ 1073741824) :
    Calls Tryz.prog 56 #[.agg #[vu, vk, .int .i64 l.user, .int .i64 l.message, .int .i64 l.state, .int .i64 l.invite, .int .i64 l.kick, .int .i64 l.ban, .int .i64 l.redact], .agg #[vu', vk', .int .i64 m.user, .int .i64 m.message, .int .i64 m.state, .int .i64 m.invite, .int .i64 m.kick, .int .i64 m.ban, .int .i64 m.redact]] W (Says (decide (l = m)) W) :=
  R6Levels_any (hr.ext hb) (hr2.ext hb) hl hm

set_option maxRecDepth 100000 in
set_option maxHeartbeats 1000000 in
theorem R6Same_any {S S2 : Nat → Prop} {cs cs2 : List Value} {a b : Con} {w : World} (hr : ConR w S cs a) (hr2 : ConR w S2 cs2 b) (ha : a.fit) (hb : b.fit) :
    Calls Tryz.prog 42 #[.agg cs.toArray, .agg cs2.toArray] w (Says (decide (a = b)) w) := by
  obtain ⟨va, vd, vu, vk, rfl, h1, h2, h3, h4⟩ := hr
  obtain ⟨va', vd', vu', vk', rfl, h1', h2', h3', h4'⟩ := hr2
  obtain ⟨A1, c1, rfl, _, _, _, h1, _⟩ := h1.form
  obtain ⟨A2, c2, rfl, _, _, _, h2, _⟩ := h2.form
  obtain ⟨A3, c3, rfl, _, _, _, h1', _⟩ := h1'.form
  obtain ⟨A4, c4, rfl, _, _, _, h2', _⟩ := h2'.form
  have HD := hide (con_decide a b)
  have HL := hide (show LevR w S (levCells a.lv vu vk) a.lv from ⟨vu, vk, rfl, h3, h4⟩)
  have HL2 := hide (show LevR w S2 (levCells b.lv vu' vk') b.lv from ⟨vu', vk', rfl, h3', h4'⟩)
  clear h3 h4 h3' h4'
  rw [conCells_arr, conCells_arr]
  obtain ⟨p1, p2, p3⟩ := ha
  obtain ⟨q1, q2, q3⟩ := hb
  have P3 := hide p3; have Q3 := hide q3; clear p3 q3
  go_enter Tryz.func42, Tryz.ntmps42
  go_wp2_with (first
    | (go_at_call 55; first
        | ((with_reducible refine (texts_in (w := w) (below_two w _ _) h1 h1' p1 q1).mono ?_); rintro e W1 ⟨rfl, n1, rfl⟩)
        | ((with_reducible refine (texts_in (w := w) (below_twoN w _ _ _) h2 h2' p2 q2).mono ?_); rintro e W2 ⟨rfl, n2, rfl⟩))
    | (go_at_call 56; ((with_reducible refine (levels_in (w := w) (below_twoN w _ _ _) HL.out HL2.out P3.out Q3.out).mono ?_); rintro e W3 ⟨rfl, hW3⟩)))
  all_goals
    go_ret
    refine ⟨?_, by first | exact below_twoN w _ _ _ | exact below_two w _ _ | exact (below_twoN w _ _ _).trans (Below.mono hW3 (below_twoN w _ _ _).size)⟩
    rw [HD.out]
    simp [*]
end
end Go.Proofs.YtmlnmcoophnlaaaGreat

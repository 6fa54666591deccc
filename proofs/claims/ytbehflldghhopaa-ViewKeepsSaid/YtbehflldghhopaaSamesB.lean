/-
  Reference: Same of contents, of events, of lists of events.
  Reference: Same of events, of lists of events.
  Reference: Same of lists of events.
-/
import Derived.Test.YtbehflldghhopaaSames
import Derived.Deep.RegionHeld3
set_option linter.unusedVariables false
set_option linter.unusedSimpArgs false
namespace Go.Proofs.Ytbehflldghhopaa
section
open Go.RowKit
attribute [local go_sem] Addr.add_mid

theorem Row.in {w W : World} {A : Option Addr} {xs : List Value} (h : Row w w.heap.size A xs) (hb : Below w.heap.size w W) : Row W W.heap.size A xs := h.ext hb
theorem below_two (w : World) (o1 o2 : Obj) : Below w.heap.size w ((w.alloc o1).alloc o2) := ext_alloc (ext_alloc (ext_refl w) _) _
theorem below_twoN (w : World) (o1 o2 : Obj) (n : Nat) : Below w.heap.size w (((w.alloc o1).alloc o2).drewN n) := below_drewN (below_two w o1 o2) n
theorem conCells_arr (c : Con) (va vd vu vk : Value) : (conCells c va vd vu vk).toArray = #[.string c.text, .int .i64 c.n, .int .i64 c.target, .bool c.thread, .string c.via, va, vd, vu, vk, .int .i64 c.lv.user, .int .i64 c.lv.message, .int .i64 c.lv.state, .int .i64 c.lv.invite, .int .i64 c.lv.kick, .int .i64 c.lv.ban, .int .i64 c.lv.redact] := rfl
theorem con_decide (a b : Con) : decide (a = b) = (a.text.toList == b.text.toList && (a.n == b.n && (a.target == b.target && (a.thread == b.thread && (a.via.toList == b.via.toList && (decide (a.allow = b.allow) && (decide (a.deny = b.deny) && decide (a.lv = b.lv)))))))) := by
  obtain ⟨a1, a2, a3, a4, a5, a6, a7, a8⟩ := a
  obtain ⟨b1, b2, b3, b4, b5, b6, b7, b8⟩ := b
  rw [Bool.eq_iff_iff]
  simp only [decide_eq_true_eq, Con.mk.injEq, Bool.and_eq_true, beq_iff_eq]
  constructor
  · rintro ⟨rfl, rfl, rfl, rfl, rfl, rfl, rfl, rfl⟩; simp
  · rintro ⟨h1, rfl, rfl, rfl, h2, rfl, rfl, rfl⟩
    exact ⟨str_eq_of h1, rfl, rfl, rfl, str_eq_of h2, rfl, rfl, rfl⟩
/-- lists of a size that a walk can go through -/
def Con.fit (c : Con) : Prop := c.allow.length ≤ 1073741824 ∧ c.deny.length ≤ 1073741824 ∧ c.lv.users.length ≤ 1073741824 ∧ c.lv.kinds.length ≤ 1073741824
theorem texts_in {w W : World} {A A2 : Option Addr} {c c2 : Nat} {l m : List ByteArray} (hb : Below w.heap.size w W) (hr : Row w w.heap.size A (svs l)) (hr2 : Row w w.heap.size A2 (svs m)) (hl : l.length ≤ 1073741824) (hm : m.length ≤ 1073741824) :
    Calls Try.prog 56 #[.slice A l.length c, .slice A2 m.length c2] W (Asks (decide (l = m)) W) := R6Texts_any (hr.ext hb) (hr2.ext hb) hl hm

theorem levels_in {w W : World} {S S2 : Nat → Prop} {l m : Lev} {vu vk vu' vk' : Value} (hb : Below w.heap.size w W) (hr : LevR w S (levCells l vu vk) l) (hr2 : LevR w S2 (levCells m vu' vk') m) (hl : l.users.length ≤ 1073741824 ∧ l.kinds.length ≤ 1073741824) (hm : m.users.length ≤ 1073741824 ∧ m.kinds.length ≤ 1073741824) :
    Calls Try.prog 57 #[.agg #[vu, vk, .int .i64 l.user, .int .i64 l.message, .int .i64 l.state, .int .i64 l.invite, .int .i64 l.kick, .int .i64 l.ban, .int .i64 l.redact], .agg #[vu', vk', .int .i64 m.user, .int .i64 m.message, .int .i64 m.state, .int .i64 m.invite, .int .i64 m.kick, .int .i64 m.ban, .int .i64 m.redact]] W (Says (decide (l = m)) W) :=
  R6Levels_any (hr.ext hb) (hr2.ext hb) hl hm

set_option maxRecDepth 100000 in
set_option maxHeartbeats 1000000 in
theorem R6Same_any {S S2 : Nat → Prop} {cs cs2 : List Value} {a b : Con} {w : World} (hr : ConR w S cs a) (hr2 : ConR w S2 cs2 b) (ha : a.fit) (hb : b.fit) :
    Calls Try.prog 52 #[.agg cs.toArray, .agg cs2.toArray] w (Says (decide (a = b)) w) := by
  obtain ⟨va, vd, vu, vk, rfl, h1, h2, h3, h4⟩ := hr
  obtain ⟨va', vd', vu', vk', rfl, h1', h2', h3', h4'⟩ := hr2
  obtain ⟨A1, c1, rfl, _, _, _, h1, _⟩ := h1.form
  obtain ⟨A2, c2, rfl, _, _, _, h2, _⟩ := h2.form
  obtain ⟨A3, c3, rfl, _, _, _, h1', _⟩ := h1'.form
  obtain ⟨A4, c4, rfl, _, _, _, h2', _⟩ := h2'.form
  have HD := hide (con_decide a b)
  have HL := hide (show LevR w S (levCells a.lv vu vk) a.lv from ⟨vu, vk, rfl, h3, h4⟩)
  have HL2 := hide (show LevR w S2 (levCells b.lv vu' vk') b.lv from ⟨vu', vk', rfl, h3', h4'⟩)
  clear h3 h4 h3' h4'
  rw [conCells_arr, conCells_arr]
  obtain ⟨p1, p2, p3⟩ := ha
  obtain ⟨q1, q2, q3⟩ := hb
  have P3 := hide p3; have Q3 := hide q3; clear p3 q3
  go_enter Try.func52, Try.ntmps52
  go_wp2_with (first
    | (go_at_call 56; first
        | ((with_reducible refine (texts_in (w := w) (below_two w _ _) h1 h1' p1 q1).mono ?_); rintro e W1 ⟨rfl, n1, rfl⟩)
        | ((with_reducible refine (texts_in (w := w) (below_twoN w _ _ _) h2 h2' p2 q2).mono ?_); rintro e W2 ⟨rfl, n2, rfl⟩))
    | (go_at_call 57; ((with_reducible refine (levels_in (w := w) (below_twoN w _ _ _) HL.out HL2.out P3.out Q3.out).mono ?_); rintro e W3 ⟨rfl, hW3⟩)))
  all_goals
    go_ret
    refine ⟨?_, by first | exact below_twoN w _ _ _ | exact below_two w _ _ | exact (below_twoN w _ _ _).trans (Below.mono hW3 (below_twoN w _ _ _).size)⟩
    rw [HD.out]
    simp [*]
end

section
open Go.RowKit
attribute [local go_sem] Addr.add_mid

theorem ev_decide (a b : Ev) : decide (a = b) = (a.id == b.id && (a.room.toList == b.room.toList && (a.sender.toList == b.sender.toList && (a.kind == b.kind && (a.state == b.state && (a.key.toList == b.key.toList && (a.time == b.time && (a.depth == b.depth &&
    (decide (a.prev = b.prev) && (decide (a.auth = b.auth) && (decide (a.con = b.con) && (a.hash == b.hash && (a.server.toList == b.server.toList && a.sum == b.sum))))))))))))) := by
  obtain ⟨a1, a2, a3, a4, a5, a6, a7, a8, a9, a10, a11, a12, a13, a14⟩ := a
  obtain ⟨b1, b2, b3, b4, b5, b6, b7, b8, b9, b10, b11, b12, b13, b14⟩ := b
  rw [Bool.eq_iff_iff]
  simp only [decide_eq_true_eq, Ev.mk.injEq, Bool.and_eq_true, beq_iff_eq]
  constructor
  · rintro ⟨rfl, rfl, rfl, rfl, rfl, rfl, rfl, rfl, rfl, rfl, rfl, rfl, rfl, rfl⟩; simp
  · rintro ⟨rfl, h1, h2, rfl, rfl, h3, rfl, rfl, rfl, rfl, rfl, rfl, h4, rfl⟩
    exact ⟨rfl, str_eq_of h1, str_eq_of h2, rfl, rfl, str_eq_of h3, rfl, rfl, rfl, rfl, rfl, rfl, str_eq_of h4, rfl⟩
def Ev.fit (e : Ev) : Prop := e.prev.length ≤ 1073741824 ∧ e.auth.length ≤ 1073741824 ∧ e.con.fit
theorem evCells_arr (e : Ev) (vp vq va vd vu vk : Value) : (evCells e vp vq va vd vu vk).toArray = #[.int .i64 e.id, .string e.room, .string e.sender, .int .i64 e.kind, .bool e.state, .string e.key, .int .i64 e.time, .int .i64 e.depth, vp, vq,
    .string e.con.text, .int .i64 e.con.n, .int .i64 e.con.target, .bool e.con.thread, .string e.con.via, va, vd, vu, vk, .int .i64 e.con.lv.user, .int .i64 e.con.lv.message, .int .i64 e.con.lv.state, .int .i64 e.con.lv.invite, .int .i64 e.con.lv.kick, .int .i64 e.con.lv.ban, .int .i64 e.con.lv.redact,
    .int .i64 e.hash, .string e.server, .int .i64 e.sum] := rfl
theorem ints_in {w W : World} {A A2 : Option Addr} {c c2 : Nat} {l m : List Int} (hb : Below w.heap.size w W) (hr : Row w w.heap.size A (ivs l)) (hr2 : Row w w.heap.size A2 (ivs m)) (hl : l.length ≤ 1073741824) (hm : m.length ≤ 1073741824) :
    Calls Try.prog 14 #[.slice A l.length c, .slice A2 m.length c2] W (Asks (decide (l = m)) W) := R1Same_any (hr.ext hb) (hr2.ext hb) hl hm
theorem con_in {w W : World} {S S2 : Nat → Prop} {a b : Con} {va vd vu vk va' vd' vu' vk' : Value} (hb : Below w.heap.size w W) (hr : ConR w S (conCells a va vd vu vk) a) (hr2 : ConR w S2 (conCells b va' vd' vu' vk') b) (ha : a.fit) (hb' : b.fit) :
    Calls Try.prog 52 #[.agg #[.string a.text, .int .i64 a.n, .int .i64 a.target, .bool a.thread, .string a.via, va, vd, vu, vk, .int .i64 a.lv.user, .int .i64 a.lv.message, .int .i64 a.lv.state, .int .i64 a.lv.invite, .int .i64 a.lv.kick, .int .i64 a.lv.ban, .int .i64 a.lv.redact],
      .agg #[.string b.text, .int .i64 b.n, .int .i64 b.target, .bool b.thread, .string b.via, va', vd', vu', vk', .int .i64 b.lv.user, .int .i64 b.lv.message, .int .i64 b.lv.state, .int .i64 b.lv.invite, .int .i64 b.lv.kick, .int .i64 b.lv.ban, .int .i64 b.lv.redact]] W (Says (decide (a = b)) W) :=
  R6Same_any (hr.ext hb) (hr2.ext hb) ha hb'

set_option maxRecDepth 100000 in
set_option maxHeartbeats 4000000 in
theorem R7Same_any {S S2 : Nat → Prop} {cs cs2 : List Value} {a b : Ev} {w : World} (hr : EvR w S cs a) (hr2 : EvR w S2 cs2 b) (ha : a.fit) (hb : b.fit) :
    Calls Try.prog 48 #[.agg cs.toArray, .agg cs2.toArray] w (Says (decide (a = b)) w) := by
  obtain ⟨vp, vq, va, vd, vu, vk, rfl, h1, h2, k1, k2, k3, k4⟩ := hr
  obtain ⟨vp', vq', va', vd', vu', vk', rfl, h1', h2', k1', k2', k3', k4'⟩ := hr2
  have HC := hide (show ConR w S (conCells a.con va vd vu vk) a.con from ⟨va, vd, vu, vk, rfl, k1, k2, k3, k4⟩)
  have HC2 := hide (show ConR w S2 (conCells b.con va' vd' vu' vk') b.con from ⟨va', vd', vu', vk', rfl, k1', k2', k3', k4'⟩)
  clear k1 k2 k3 k4 k1' k2' k3' k4'
  obtain ⟨A1, c1, rfl, _, _, _, h1, _⟩ := h1.form
  obtain ⟨A2, c2, rfl, _, _, _, h2, _⟩ := h2.form
  obtain ⟨A3, c3, rfl, _, _, _, h1', _⟩ := h1'.form
  obtain ⟨A4, c4, rfl, _, _, _, h2', _⟩ := h2'.form
  have HD := hide (ev_decide a b)
  rw [evCells_arr, evCells_arr]
  obtain ⟨p1, p2, p3⟩ := ha
  obtain ⟨q1, q2, q3⟩ := hb
  have P3 := hide p3; have Q3 := hide q3; clear p3 q3
  go_enter Try.func48, Try.ntmps48
  simp only [List.append]
  go_wp2_with (first
    | (go_at_call 14; first
        | ((with_reducible refine (ints_in (w := w) (below_two w _ _) h1 h1' p1 q1).mono ?_); rintro e W1 ⟨rfl, n1, rfl⟩)
        | ((with_reducible refine (ints_in (w := w) (below_twoN w _ _ _) h2 h2' p2 q2).mono ?_); rintro e W2 ⟨rfl, n2, rfl⟩))
    | (go_at_call 52; ((with_reducible refine (con_in (w := w) (below_twoN w _ _ _) HC.out HC2.out P3.out Q3.out).mono ?_); rintro e W3 ⟨rfl, hW3⟩; have hc3 := (bcell hW3).1)))
  all_goals first
    | (go_ret
       refine ⟨?_, by first | exact below_twoN w _ _ _ | exact below_two w _ _ | exact (below_twoN w _ _ _).trans (Below.mono hW3 (below_twoN w _ _ _).size)⟩
       rw [HD.out]
       simp [*])
end

section
open Go.RowKit
attribute [local go_sem] Addr.add_mid

def evZero : Array Value := #[.int .i64 0, .string ⟨#[]⟩, .string ⟨#[]⟩, .int .i64 0, .bool false, .string ⟨#[]⟩, .int .i64 0, .int .i64 0, .slice none 0 0, .slice none 0 0, .string ⟨#[]⟩, .int .i64 0, .int .i64 0, .bool false, .string ⟨#[]⟩, .slice none 0 0, .slice none 0 0, .slice none 0 0, .slice none 0 0,
  .int .i64 0, .int .i64 0, .int .i64 0, .int .i64 0, .int .i64 0, .int .i64 0, .int .i64 0, .int .i64 0, .string ⟨#[]⟩, .int .i64 0]
theorem strcE : Strc Try.prog 68 evZero 29 := ⟨⟨_, Try.underlying68, rfl⟩, by kernel_rfl, rfl⟩
theorem sizeE : (Try.prog.info? 68).map (·.size) = some 29 := strcE.size

set_option maxRecDepth 100000 in
set_option maxHeartbeats 1000000 in
theorem R7All_any {S S2 : Nat → Prop} {v v2 : Value} {l m : List Ev} {w : World} (hr : EvsR w S v l) (hr2 : EvsR w S2 v2 m) (hl : l.length ≤ 1073741824) (hm : m.length ≤ 1073741824) (ha : ∀ e ∈ l, e.fit) (hb : ∀ e ∈ m, e.fit) :
    Calls Try.prog 33 #[v, v2] w (Says (decide (l = m)) w) := by
  obtain ⟨A, c, css, rfl, _, _, _, hr, ht⟩ := hr.form
  obtain ⟨A2, c2, css2, rfl, _, _, _, hr2, ht2⟩ := hr2.form
  by_cases hlm : l.length = m.length
  · have hx : ((l.length : Int) != (m.length : Int)) = false := by rw [hlm]; simp
    have HLM := hide hlm
    go_enter Try.func33, Try.ntmps33
    clear hlm
    go_wp2_with fail
    clear hx
    go_loopw [5] (fun i wr => ∃ k : Nat, k ≤ l.length ∧ i = .int .i64 (k : Int) ∧ l.take k = m.take k ∧ Below w.heap.size w wr) (fun i _ => l.length - (intOf i).toNat)
    case atStart => exact ⟨0, Nat.zero_le _, rfl, rfl, ext_refl w⟩
    case round =>
      obtain ⟨k, hk, rfl, hte, hnx⟩ := hrel
      have HT := hide hte; clear hte
      by_cases hlt : k < l.length
      · have hlt2 : k < m.length := by rw [← HLM.out]; exact hlt
        obtain ⟨b1, o1, cs1, rfl, hb1, he1, _, hc1⟩ := evs_at (hr.ext hnx) (ht.imp fun _ _ h => h.ext hnx) k hlt
        obtain ⟨b2, o2, cs2, rfl, hb2, he2, _, hc2⟩ := evs_at (hr2.ext hnx) (ht2.imp fun _ _ h => h.ext hnx) k hlt2
        have i0 : (0 : Int) ≤ (k : Int) := by omega
        have i1 : (k : Int) < (l.length : Int) := by omega
        have i2 : (k : Int) < (m.length : Int) := by omega
        have HE := hide (fun h : l[k] = m[k] => take_eq_step HT.out hlt hlt2 h)
        have HN := hide (fun h : l[k] ≠ m[k] => ne_of_get hlt hlt2 h)
        have hn1 := he1.length
        have hn2 := he2.length
        have HC := hide (fun n : Nat => R7Same_any (w := wr.drewN n) (he1.ext (below_drewN (ext_refl _) n)) (he2.ext (below_drewN (ext_refl _) n)) (ha _ (List.getElem_mem hlt)) (hb _ (List.getElem_mem hlt2)))
        have r1 : wr.rangeAt b1 (o1 + k * 29) cs1 := hc1
        have r2 : wr.rangeAt b2 (o2 + k * 29) cs2 := hc2
        clear hc1 hc2 he1 he2 hr hr2 ht ht2
        go_wp2_with fail
        refine wp_region_still_tail 8 (by kernel_rfl) (by kernel_rfl) ?_
        simp only [List.take_succ_cons, List.take_zero, List.drop_succ_cons, List.drop_zero]
        iterate 3 still_step
        refine still_loadS rfl (.tmp 19) rfl strcE ⟨b1, o1 + k * 29, none⟩ rfl cs1 hn1 (cells_range r1) ?_
        iterate 3 still_step
        refine still_loadS rfl (.tmp 23) rfl strcE ⟨b2, o2 + k * 29, none⟩ rfl cs2 hn2 (cells_range r2) ?_
        refine wpStill_nil ?_
        go_wp2_with fail
        refine (HC.out 1).mono ?_
        rintro e W3 ⟨rfl, hW3⟩
        have hnx' : Below w.heap.size w W3 := hnx.trans ((below_drewN (ext_refl wr) 1).trans (hW3.mono (by simp)) |>.mono hnx.size)
        clear HC r1 r2 hW3
        by_cases he : l[k] = m[k]
        · have HE' := hide (HE.out he)
          have hd : decide (l[k] = m[k]) = true := decide_eq_true he
          clear he HE HN
          go_wp2_with fail
          go_roundw
          case rel => exact ⟨k + 1, by omega, by go_num, HE'.out, hnx'⟩
          case measure => simp [intOf]; omega
        · have HN' := hide (HN.out he)
          have hd : decide (l[k] = m[k]) = false := decide_eq_false he
          clear he HE HN
          go_wp2_with fail
          go_ret
          exact ⟨by rw [decide_eq_false HN'.out]; rfl, hnx'⟩
      · obtain rfl : k = l.length := by omega
        have HF := hide (take_eq_fin HT.out HLM.out)
        go_wp2_with fail
        go_ret
        exact ⟨by rw [decide_eq_true HF.out]; rfl, hnx⟩
  · have hx : ((l.length : Int) != (m.length : Int)) = true := by simp; omega
    have HN := hide (fun h : l = m => hlm (by rw [h]))
    clear hlm
    go_enter Try.func33, Try.ntmps33
    go_wp2_with fail
    go_ret
    exact ⟨by rw [decide_eq_false HN.out]; rfl, ext_refl w⟩
end
end Go.Proofs.Ytbehflldghhopaa

/-
  fedchatref01.Same, slices.Equal, fedchatref07.Same, event.Same.
  fedchatlaw07: the worked example that every statement asks (sample, lives).
-/
import Derived.Test.YtmlnmcoophnlaaaGreatCSame
import Derived.Test.YtmlnmcoophnlaaaGreatEvVer
set_option linter.unusedVariables false
set_option linter.unusedSimpArgs false
namespace Go.Proofs.YtmlnmcoophnlaaaGreat
section
open Go.RowKit
attribute [local go_sem] Addr.add_mid
set_option maxRecDepth 100000 in
set_option maxHeartbeats 8000000 in
theorem R1Same_any {B B2 : Nat} {A A2 : Option Addr} {c c2 : Nat} {l m : List Int} {w : World} (hr : Row w B A (ivs l)) (hr2 : Row w B2 A2 (ivs m)) (hl : l.length ≤ 1073741824) (hm : m.length ≤ 1073741824) :
    Calls Tryz.prog 41 #[.slice A l.length c, .slice A2 m.length c2] w (Asks (decide (l = m)) w) := by
  by_cases hlm : l.length = m.length
  · have hx : ((l.length : Int) != (m.length : Int)) = false := by rw [hlm]; simp
    have HLM := hide hlm
    go_enter Tryz.func41, Tryz.ntmps41
    clear hlm
    go_wp2_with fail
    clear hx
    go_loopw [5] (fun i wr => ∃ k n : Nat, k ≤ l.length ∧ i = .int .i64 (k : Int) ∧ l.take k = m.take k ∧ wr = w.drewN n) (fun i _ => l.length - (intOf i).toNat)
    case atStart => exact ⟨0, 0, Nat.zero_le _, rfl, rfl, rfl⟩
    case round =>
      obtain ⟨k, n, hk, rfl, ht, rfl⟩ := hrel
      have HT := hide ht; clear ht
      by_cases hlt : k < l.length
      · have hlt2 : k < m.length := by rw [← HLM.out]; exact hlt
        obtain ⟨ad, rfl, _, hcell⟩ := hr.at (ivs_get l k hlt)
        obtain ⟨ad2, rfl, _, hcell2⟩ := hr2.at (ivs_get m k hlt2)
        have i0 : (0 : Int) ≤ (k : Int) := by omega
        have i1 : (k : Int) < (l.length : Int) := by omega
        have i2 : (k : Int) < (m.length : Int) := by omega
        have HE := hide (fun h : l[k] = m[k] => take_eq_step HT.out hlt hlt2 h)
        have HN := hide (fun h : l[k] ≠ m[k] => ne_of_get hlt hlt2 h)
        by_cases he : l[k] = m[k]
        · have HE' := hide (HE.out he)
          have hb : (l[k] != m[k]) = false := by rw [he]; simp
          clear he HE HN
          go_wp2_with fail
          go_quiet (fail)
          go_wp2_with fail
          go_roundw
          case rel => exact ⟨k + 1, _, by omega, by go_num, HE'.out, rfl⟩
          case measure => simp [intOf]; omega
        · have HN' := hide (HN.out he)
          have hb : (l[k] != m[k]) = true := by simpa using he
          clear he HE HN
          go_wp2_with fail
          go_quiet (fail)
          go_wp2_with fail
          go_ret
          exact asks_mk2 _ _ (decide_eq_false HN'.out).symm
      · obtain rfl : k = l.length := by omega
        have HF := hide (take_eq_fin HT.out HLM.out)
        go_wp2_with fail
        go_ret
        exact asks_mk _ (decide_eq_true HF.out).symm
  · have hx : ((l.length : Int) != (m.length : Int)) = true := by simp; omega
    have HN := hide (fun h : l = m => hlm (by rw [h]))
    clear hlm
    go_enter Tryz.func41, Tryz.ntmps41
    go_wp2_with fail
    go_ret
    exact asks_mk0 (decide_eq_false HN.out).symm
set_option maxRecDepth 100000 in
set_option maxHeartbeats 8000000 in
theorem EqInts_any {B B2 : Nat} {A A2 : Option Addr} {c c2 : Nat} {l m : List Int} {w : World} (hr : Row w B A (ivs l)) (hr2 : Row w B2 A2 (ivs m)) (hl : l.length ≤ 1073741824) (hm : m.length ≤ 1073741824) :
    Calls Tryz.prog 53 #[.slice A l.length c, .slice A2 m.length c2] w (Asks (decide (l = m)) w) := by
  by_cases hlm : l.length = m.length
  · have hx : ((l.length : Int) != (m.length : Int)) = false := by rw [hlm]; simp
    have HLM := hide hlm
    go_enter Tryz.func53, Tryz.ntmps53
    clear hlm
    go_wp2_with fail
    clear hx
    go_loopw [13] (fun i wr => ∃ k n : Nat, k ≤ l.length ∧ i = .int .i64 (k : Int) ∧ l.take k = m.take k ∧ wr = w.drewN n) (fun i _ => l.length - (intOf i).toNat)
    case atStart => exact ⟨0, 0, Nat.zero_le _, rfl, rfl, rfl⟩
    case round =>
      obtain ⟨k, n, hk, rfl, ht, rfl⟩ := hrel
      have HT := hide ht; clear ht
      by_cases hlt : k < l.length
      · have hlt2 : k < m.length := by rw [← HLM.out]; exact hlt
        obtain ⟨ad, rfl, _, hcell⟩ := hr.at (ivs_get l k hlt)
        obtain ⟨ad2, rfl, _, hcell2⟩ := hr2.at (ivs_get m k hlt2)
        have i0 : (0 : Int) ≤ (k : Int) := by omega
        have i1 : (k : Int) < (l.length : Int) := by omega
        have i2 : (k : Int) < (m.length : Int) := by omega
        have HE := hide (fun h : l[k] = m[k] => take_eq_step HT.out hlt hlt2 h)
        have HN := hide (fun h : l[k] ≠ m[k] => ne_of_get hlt hlt2 h)
        by_cases he : l[k] = m[k]
        · have HE' := hide (HE.out he)
          have hb : (l[k] != m[k]) = false := by rw [he]; simp
          clear he HE HN
          go_wp2_with fail
          go_quiet (fail)
          go_wp2_with fail
          go_roundw
          case rel => exact ⟨k + 1, _, by omega, by go_num, HE'.out, rfl⟩
          case measure => simp [intOf]; omega
        · have HN' := hide (HN.out he)
          have hb : (l[k] != m[k]) = true := by simpa using he
          clear he HE HN
          go_wp2_with fail
          go_quiet (fail)
          go_wp2_with fail
          go_ret
          exact asks_mk2 _ _ (decide_eq_false HN'.out).symm
      · obtain rfl : k = l.length := by omega
        have HF := hide (take_eq_fin HT.out HLM.out)
        go_wp2_with fail
        go_ret
        exact asks_mk _ (decide_eq_true HF.out).symm
  · have hx : ((l.length : Int) != (m.length : Int)) = true := by simp; omega
    have HN := hide (fun h : l = m => hlm (by rw [h]))
    clear hlm
    go_enter Tryz.func53, Tryz.ntmps53
    go_wp2_with fail
    go_ret
    exact asks_mk0 (decide_eq_false HN.out).symm
theorem ev_decide (a b : Ev) : decide (a = b) = (a.id == b.id && (a.room.toList == b.room.toList && (a.sender.toList == b.sender.toList && (a.kind == b.kind && (a.state == b.state && (a.key.toList == b.key.toList && (a.time == b.time && (a.depth == b.depth &&
    (decide (a.prev = b.prev) && (decide (a.auth = b.auth) && (decide (a.con = b.con) && (a.hash == b.hash && (a.server.toList == b.server.toList && a.sum == b.sum))))))))))))) := by
  obtain ⟨a1, a2, a3, a4, a5, a6, a7, a8, a9, a10, a11, a12, a13, a14⟩ := a
  obtain ⟨b1, b2, b3, b4, b5, b6, b7, b8, b9, b10, b11, b12, b13, b14⟩ := b
  rw [Bool.eq_iff_iff]
  simp only [decide_eq_true_eq, Ev.mk.injEq, Bool.and_eq_true, beq_iff_eq]
  constructor
  · rintro ⟨rfl, rfl, rfl, rfl, rfl, rfl, rfl, rfl, rfl, rfl, rfl, rfl, rfl, rfl⟩; simp
  · rintro ⟨rfl, h1, h2, rfl, rfl, h3, rfl, rfl, rfl, rfl, rfl, rfl, h4, rfl⟩
    exact ⟨rfl, str_eq_of h1, str_eq_of h2, rfl, rfl, str_eq_of h3, rfl, rfl, rfl, rfl, rfl, rfl, str_eq_of h4, rfl⟩
def Ev.fit (e : Ev) : Prop := e.prev.length ≤ 1073741824 ∧ e.auth.length ≤ 1073741824 ∧ e.con.fit
theorem evCells_arr (e : Ev) (vp vq va vd vu vk : Value) : (evCells e vp vq va vd vu vk).toArray = #[.int .i64 e.id, .string e.room, .string e.sender, .int .i64 e.kind, .bool e.state, .string e.key, .int .i64 e.time, .int .i64 e.depth, vp, vq,
    .string e.con.text, .int .i64 e.con.n, .int .i64 e.con.target, .bool e.con.thread, .string e.con.via, va, vd, vu, vk, .int .i64 e.con.lv.user, .int .i64 e.con.lv.message, .int .i64 e.con.lv.state, .int .i64 e.con.lv.invite, .int .i64 e.con.lv.kick, .int .i64 e.con.lv.ban, .int .i64 e.con.lv.redact,
    .int .i64 e.hash, .string e.server, .int .i64 e.sum] := rfl
theorem ints_in {w W : World} {A A2 : Option Addr} {c c2 : Nat} {l m : List Int} (hb : Below w.heap.size w W) (hr : Row w w.heap.size A (ivs l)) (hr2 : Row w w.heap.size A2 (ivs m)) (hl : l.length ≤ 1073741824) (hm : m.length ≤ 1073741824) :
    Calls Tryz.prog 41 #[.slice A l.length c, .slice A2 m.length c2] W (Asks (decide (l = m)) W) := R1Same_any (hr.ext hb) (hr2.ext hb) hl hm
theorem con_in {w W : World} {S S2 : Nat → Prop} {a b : Con} {va vd vu vk va' vd' vu' vk' : Value} (hb : Below w.heap.size w W) (hr : ConR w S (conCells a va vd vu vk) a) (hr2 : ConR w S2 (conCells b va' vd' vu' vk') b) (ha : a.fit) (hb' : b.fit) :
    Calls Tryz.prog 42 #[.agg #[.string a.text, .int .i64 a.n, .int .i64 a.target, .bool a.thread, .string a.via, va, vd, vu, vk, .int .i64 a.lv.user, .int .i64 a.lv.message, .int .i64 a.lv.state, .int .i64 a.lv.invite, .int .i64 a.lv.kick, .int .i64 a.lv.ban, .int .i64 a.lv.redact],
      .agg #[.string b.text, .int .i64 b.n, .int .i64 b.target, .bool b.thread, .string b.via, va', vd', vu', vk', .int .i64 b.lv.user, .int .i64 b.lv.message, .int .i64 b.lv.state, .int .i64 b.lv.invite, .int .i64 b.lv.kick, .int .i64 b.lv.ban, .int .i64 b.lv.redact]] W (Says (decide (a = b)) W) :=
  R6Same_any (hr.ext hb) (hr2.ext hb) ha hb'
theorem ev_decide2 (a b : Ev) : decide (a = b) = (a.id == b.id && (a.room.toList == b.room.toList && (a.sender.toList == b.sender.toList && (a.kind == b.kind && (a.state == b.state && (a.key.toList == b.key.toList && (a.time == b.time && (a.depth == b.depth &&
    (a.hash == b.hash && ((a.server.toList == b.server.toList && a.sum == b.sum) && (decide (a.prev = b.prev) && (decide (a.auth = b.auth) && decide (a.con = b.con))))))))))))) := by
  rw [ev_decide]
  rw [Bool.eq_iff_iff]
  simp only [Bool.and_eq_true, decide_eq_true_eq, beq_iff_eq]
  constructor
  · rintro ⟨h1, h2, h3, h4, h5, h6, h7, h8, h9, h10, h11, h12, h13, h14⟩; exact ⟨h1, h2, h3, h4, h5, h6, h7, h8, h12, ⟨h13, h14⟩, h9, h10, h11⟩
  · rintro ⟨h1, h2, h3, h4, h5, h6, h7, h8, h12, ⟨h13, h14⟩, h9, h10, h11⟩; exact ⟨h1, h2, h3, h4, h5, h6, h7, h8, h9, h10, h11, h12, h13, h14⟩
theorem ints_in2 {w W : World} {A A2 : Option Addr} {c c2 : Nat} {l m : List Int} (hb : Below w.heap.size w W) (hr : Row w w.heap.size A (ivs l)) (hr2 : Row w w.heap.size A2 (ivs m)) (hl : l.length ≤ 1073741824) (hm : m.length ≤ 1073741824) :
    Calls Tryz.prog 53 #[.slice A l.length c, .slice A2 m.length c2] W (Asks (decide (l = m)) W) := EqInts_any (hr.ext hb) (hr2.ext hb) hl hm
theorem con_in2 {w W : World} {S S2 : Nat → Prop} {a b : Con} {va vd vu vk va' vd' vu' vk' : Value} (hb : Below w.heap.size w W) (hr : ConR w S (conCells a va vd vu vk) a) (hr2 : ConR w S2 (conCells b va' vd' vu' vk') b) (ha : a.fit) (hb' : b.fit) :
    Calls Tryz.prog 54 #[.agg #[.string a.text, .int .i64 a.n, .int .i64 a.target, .bool a.thread, .string a.via, va, vd, vu, vk, .int .i64 a.lv.user, .int .i64 a.lv.message, .int .i64 a.lv.state, .int .i64 a.lv.invite, .int .i64 a.lv.kick, .int .i64 a.lv.ban, .int .i64 a.lv.redact],
      .agg #[.string b.text, .int .i64 b.n, .int .i64 b.target, .bool b.thread, .string b.via, va', vd', vu', vk', .int .i64 b.lv.user, .int .i64 b.lv.message, .int .i64 b.lv.state, .int .i64 b.lv.invite, .int .i64 b.lv.kick, .int .i64 b.lv.ban, .int .i64 b.lv.redact]] W (Says (decide (a = b)) W) :=
  CSame_any (hr.ext hb) (hr2.ext hb) ha hb'
set_option maxRecDepth 100000 in
set_option maxHeartbeats 8000000 in
theorem R7Same_any {S S2 : Nat → Prop} {cs cs2 : List Value} {a b : Ev} {w : World} (hr : EvR w S cs a) (hr2 : EvR w S2 cs2 b) (ha : a.fit) (hb : b.fit) :
    Calls Tryz.prog 17 #[.agg cs.toArray, .agg cs2.toArray] w (Says (decide (a = b)) w) := by
  obtain ⟨vp, vq, va, vd, vu, vk, rfl, h1, h2, k1, k2, k3, k4⟩ := hr
  obtain ⟨vp', vq', va', vd', vu', vk', rfl, h1', h2', k1', k2', k3', k4'⟩ := hr2
  have HC := hide (show ConR w S (conCells a.con va vd vu vk) a.con from ⟨va, vd, vu, vk, rfl, k1, k2, k3, k4⟩)
  have HC2 := hide (show ConR w S2 (conCells b.con va' vd' vu' vk') b.con from ⟨va', vd', vu', vk', rfl, k1', k2', k3', k4'⟩)
  clear k1 k2 k3 k4 k1' k2' k3' k4'
  obtain ⟨A1, c1, rfl, _, _, _, h1, _⟩ := h1.form
  obtain ⟨A2, c2, rfl, _, _, _, h2, _⟩ := h2.form
  obtain ⟨A3, c3, rfl, _, _, _, h1', _⟩ := h1'.form
  obtain ⟨A4, c4, rfl, _, _, _, h2', _⟩ := h2'.form
  have HD := hide (ev_decide a b)
  rw [evCells_arr, evCells_arr]
  obtain ⟨p1, p2, p3⟩ := ha
  obtain ⟨q1, q2, q3⟩ := hb
  have P3 := hide p3; have Q3 := hide q3; clear p3 q3
  go_enter Tryz.func17, Tryz.ntmps17
  simp only [List.append]
  go_wp2_with (first
    | (go_at_call 41; first
        | ((with_reducible refine (ints_in (w := w) (below_two w _ _) h1 h1' p1 q1).mono ?_); rintro e W1 ⟨rfl, n1, rfl⟩)
        | ((with_reducible refine (ints_in (w := w) (below_twoN w _ _ _) h2 h2' p2 q2).mono ?_); rintro e W2 ⟨rfl, n2, rfl⟩))
    | (go_at_call 42; ((with_reducible refine (con_in (w := w) (below_twoN w _ _ _) HC.out HC2.out P3.out Q3.out).mono ?_); rintro e W3 ⟨rfl, hW3⟩; have hc3 := (bcell hW3).1)))
  all_goals first
    | (go_ret
       refine ⟨?_, by first | exact below_twoN w _ _ _ | exact below_two w _ _ | exact (below_twoN w _ _ _).trans (Below.mono hW3 (below_twoN w _ _ _).size)⟩
       rw [HD.out]
       simp [*])
set_option maxRecDepth 100000 in
set_option maxHeartbeats 8000000 in
theorem ESame_any {S S2 : Nat → Prop} {cs cs2 : List Value} {a b : Ev} {w : World} (hr : EvR w S cs a) (hr2 : EvR w S2 cs2 b) (ha : a.fit) (hb : b.fit) :
    Calls Tryz.prog 39 #[.agg cs.toArray, .agg cs2.toArray] w (Says (decide (a = b)) w) := by
  obtain ⟨vp, vq, va, vd, vu, vk, rfl, h1, h2, k1, k2, k3, k4⟩ := hr
  obtain ⟨vp', vq', va', vd', vu', vk', rfl, h1', h2', k1', k2', k3', k4'⟩ := hr2
  have HC := hide (show ConR w S (conCells a.con va vd vu vk) a.con from ⟨va, vd, vu, vk, rfl, k1, k2, k3, k4⟩)
  have HC2 := hide (show ConR w S2 (conCells b.con va' vd' vu' vk') b.con from ⟨va', vd', vu', vk', rfl, k1', k2', k3', k4'⟩)
  clear k1 k2 k3 k4 k1' k2' k3' k4'
  obtain ⟨A1, c1, rfl, _, _, _, h1, _⟩ := h1.form
  obtain ⟨A2, c2, rfl, _, _, _, h2, _⟩ := h2.form
  obtain ⟨A3, c3, rfl, _, _, _, h1', _⟩ := h1'.form
  obtain ⟨A4, c4, rfl, _, _, _, h2', _⟩ := h2'.form
  have HD := hide (ev_decide2 a b)
  rw [evCells_arr, evCells_arr]
  obtain ⟨p1, p2, p3⟩ := ha
  obtain ⟨q1, q2, q3⟩ := hb
  have P3 := hide p3; have Q3 := hide q3; clear p3 q3
  go_enter Tryz.func39, Tryz.ntmps39
  simp only [List.append]
  go_wp2_with (first
    | (go_at_call 53; first
        | ((with_reducible refine (ints_in2 (w := w) (below_two w _ _) h1 h1' p1 q1).mono ?_); rintro e W1 ⟨rfl, n1, rfl⟩)
        | ((with_reducible refine (ints_in2 (w := w) (below_twoN w _ _ _) h2 h2' p2 q2).mono ?_); rintro e W2 ⟨rfl, n2, rfl⟩))
    | (go_at_call 54; ((with_reducible refine (con_in2 (w := w) (below_twoN w _ _ _) HC.out HC2.out P3.out Q3.out).mono ?_); rintro e W3 ⟨rfl, hW3⟩; have hc3 := (bcell hW3).1)))
  all_goals first
    | (go_ret
       refine ⟨?_, by first | exact below_twoN w _ _ _ | exact below_two w _ _ | exact (below_twoN w _ _ _).trans (Below.mono hW3 (below_twoN w _ _ _).size)⟩
       rw [HD.out]
       simp [*])
end

section
open Go.RowKit
attribute [local go_sem] Addr.add_mid
/-- the sample event -/
def smpE : Ev := ⟨0, ⟨#[33, 114, 58, 115]⟩, ⟨#[64, 97, 58, 115]⟩, 12, false, ⟨#[]⟩, 3, 2, [7], [4, 7], ⟨⟨#[43]⟩, 0, 5, false, ⟨#[]⟩, [], [], Lev.zero⟩, 0, ⟨#[]⟩, 0⟩
def sgnE : Ev := signE smpE ⟨#[115]⟩
theorem smp_good : smpE.good := by
  have z : ∀ n : Int, -9223372036854775808 ≤ n → n < 9223372036854775808 → I64 n := fun n h1 h2 => ⟨h1, h2⟩
  refine ⟨⟨z _ (by decide) (by decide), Nat.le_of_ble_eq_true rfl, Nat.le_of_ble_eq_true rfl, z _ (by decide) (by decide), Nat.le_of_ble_eq_true rfl, z _ (by decide) (by decide), z _ (by decide) (by decide), ?_, ?_, ?_, z _ (by decide) (by decide), Nat.le_of_ble_eq_true rfl, z _ (by decide) (by decide)⟩, Nat.le_of_ble_eq_true rfl, Nat.le_of_ble_eq_true rfl, Nat.le_of_ble_eq_true rfl, Nat.le_of_ble_eq_true rfl, Nat.le_of_ble_eq_true rfl, Nat.le_of_ble_eq_true rfl, ?_⟩
  · intro n hn; simp only [smpE, List.mem_cons, List.not_mem_nil, or_false] at hn; subst hn; exact z _ (by decide) (by decide)
  · intro n hn; simp only [smpE, List.mem_cons, List.not_mem_nil, or_false] at hn; rcases hn with rfl | rfl <;> exact z _ (by decide) (by decide)
  · exact ⟨Nat.le_of_ble_eq_true rfl, z _ (by decide) (by decide), z _ (by decide) (by decide), Nat.zero_le _, fun s hs => by simp [smpE] at hs, fun s hs => by simp [smpE] at hs, fun s hs => by simp [smpE, Lev.zero] at hs, fun s hs => by simp [smpE, Lev.zero] at hs, z _ (by decide) (by decide), z _ (by decide) (by decide), z _ (by decide) (by decide), z _ (by decide) (by decide), z _ (by decide) (by decide), z _ (by decide) (by decide), z _ (by decide) (by decide)⟩
  · exact ⟨Nat.le_of_ble_eq_true rfl, Nat.zero_le _, Nat.zero_le _, Nat.zero_le _, ⟨Nat.zero_le _, Nat.zero_le _, fun s hs => by simp [smpE, Lev.zero] at hs⟩, fun s hs => by simp [smpE] at hs, fun s hs => by simp [smpE] at hs⟩
theorem sgn_good : sgnE.good := smp_good.sign (by decide)
theorem smp_chk : evE smpE = 0 := by decide +kernel
theorem sgn_whole : wholeB sgnE = true := by decide +kernel
theorem str_whole : wholeB (stripE sgnE) = false := by decide +kernel
theorem str_text : (stripE sgnE).con.text = ⟨#[]⟩ := by decide +kernel
theorem sgn_text : sgnE.con.text = ⟨#[43]⟩ := by decide +kernel
theorem sgn_ver : verE sgnE = 0 := by decide +kernel
theorem str_ver : verE (stripE sgnE) = 0 := by decide +kernel
theorem sgn_len : 10 < (encEv sgnE).length := by decide +kernel
theorem sgn_rec : recE sgnE = sgnE := by unfold recE; rw [if_pos sgn_whole]
theorem Ev.good.fitE {e : Ev} (h : e.good) : e.fit := ⟨by have := h.prev; omega, by have := h.auth; omega, h.fit⟩
theorem lit_slc (u : World) (xs : List Int) (n : Nat) (hn : xs.length = n) (hm : n ≤ 1000) : Slc (u.alloc (.cells (ivs xs).toArray 3)) (fun b => u.heap.size ≤ b) (.slice (some ⟨u.heap.size, 0, none⟩) n n) 1 n (ivs xs) := by
  subst hn
  exact ⟨_, _, rfl, by simp [ivs], Nat.le_refl _, by unfold maxLen; omega, (fun h => nomatch h), row_lit u (ivs xs) (ivs xs).toArray 3 rfl rfl, fun _ ad ha => by injection ha with ha; subst ha; exact Nat.le_refl _⟩
def smpCells (g : Nat) : List Value := evCells smpE (.slice (some ⟨g + 1, 0, none⟩) 1 1) (.slice (some ⟨g + 1 + 1, 0, none⟩) 2 2) (.slice none 0 0) (.slice none 0 0) (.slice none 0 0) (.slice none 0 0)
theorem smp_one (g : Nat) : ∀ u ∈ smpCells g, u.oneCell' = true := List.all_eq_true.1 (show (smpCells g).all (·.oneCell') = true from rfl)
theorem smp_R (w w3 : World) (h : (((w.alloc (.cells evZero 35)).alloc (.cells #[.int .i64 7] 3)).alloc (.cells #[.int .i64 4, .int .i64 7] 3)).grownBy w3 (some w.heap.size)) : EvR w3 Any (smpCells w.heap.size) smpE ∧ Below w.heap.size w w3 := by
  obtain ⟨W0, h0⟩ : ∃ W, W = w.alloc (.cells evZero 35) := ⟨_, rfl⟩
  rw [← h0] at h
  have hz : W0.heap.size = w.heap.size + 1 := by rw [h0]; simp
  have hz1 : (W0.alloc (.cells #[.int .i64 7] 3)).heap.size = w.heap.size + 1 + 1 := by simp [hz]
  have kb : Below w.heap.size w W0 := by rw [h0]; exact ext_alloc (ext_refl w) _
  have k1 := ext_alloc (ext_refl W0) (.cells #[.int .i64 7] 3)
  have k2 := ext_alloc (ext_refl (W0.alloc (.cells #[.int .i64 7] 3))) (.cells #[.int .i64 4, .int .i64 7] 3)
  have t1 := ((lit_slc W0 [7] 1 rfl (by decide)).ext k2).grown h (fun q hq e => by injection e with e; omega)
  have t2 := (lit_slc (W0.alloc (.cells #[.int .i64 7] 3)) [4, 7] 2 rfl (by decide)).grown h (fun q hq e => by injection e with e; omega)
  rw [hz] at t1; rw [hz1] at t2
  have kb2 := ext_trans (ext_trans kb k1) k2
  exact ⟨⟨_, _, _, _, _, _, rfl, t1.any, t2.any, Slc.nil _ _ _, Slc.nil _ _ _, Slc.nil _ _ _, Slc.nil _ _ _⟩, kb2.grown h kb2.size (fun k hk => by injection hk with hk; omega)⟩
/-- what stands while lives is walked -/
structure LV (g1 g2 g4 : Nat) (cs1 cs2 cs4 : List Value) (W : World) : Prop where
  b1 : W.heap[g1]? = some (.cells cs1.toArray 35 (0, 0))
  b2 : W.heap[g2]? = some (.cells cs2.toArray 35 (0, 0))
  b4 : W.heap[g4]? = some (.cells cs4.toArray 35 (0, 0))
  r1 : EvR W Any cs1 sgnE
  r2 : EvR W Any cs2 sgnE
  r4 : EvR W Any cs4 (stripE sgnE)
theorem LV.ext {g1 g2 g4 : Nat} {cs1 cs2 cs4 : List Value} {W W' : World} (h : LV g1 g2 g4 cs1 cs2 cs4 W) (k : Below W.heap.size W W') : LV g1 g2 g4 cs1 cs2 cs4 W' :=
  ⟨box_below h.b1 k, box_below h.b2 k, box_below h.b4 k, h.r1.ext k, h.r2.ext k, h.r4.ext k⟩
theorem EvR.c10 {w : World} {S : Nat → Prop} {cs : List Value} {e : Ev} (h : EvR w S cs e) : cs[10]? = some (.string e.con.text) := by obtain ⟨_, _, _, _, _, _, rfl, _⟩ := h; rfl
theorem live_stripE {cs : List Value} {w : World} (h : EvR w Any cs sgnE) : Calls Tryz.prog 80 #[.agg cs.toArray] w (fun x w' => ∃ cs', x = .returned (.agg cs'.toArray) ∧ EvR w' Any cs' (stripE sgnE) ∧ Below w.heap.size w w') :=
  (EStrip_any h sgn_good.fit).mono fun x w' ⟨cs', h1, h2, h3⟩ => ⟨cs', h1, h2.any, h3⟩
theorem live_chk {cs : List Value} {w : World} (h : EvR w Any cs smpE) : Calls Tryz.prog 57 #[.agg cs.toArray] w (Errs 0 w) := by
  have := Ev.good.check h smp_good
  rwa [smp_chk] at this
theorem live_ver {cs : List Value} {w : World} (h : EvR w Any cs (stripE sgnE)) : Calls Tryz.prog 43 #[.agg cs.toArray] w (Errs 0 w) := by
  have := Verify_any h sgn_good.strip
  rwa [str_ver] at this
theorem live_wh1 {cs : List Value} {w : World} (h : EvR w Any cs sgnE) : Calls Tryz.prog 36 #[.agg cs.toArray] w (Says true w) := by
  have := Whole_any h sgn_good.cputs
  rwa [sgn_whole] at this
theorem live_wh2 {cs : List Value} {w : World} (h : EvR w Any cs (stripE sgnE)) : Calls Tryz.prog 36 #[.agg cs.toArray] w (Says false w) := by
  have := Whole_any h sgn_good.strip.cputs
  rwa [str_whole] at this
theorem live_same {cs cs2 : List Value} {w : World} (h : EvR w Any cs sgnE) (h2 : EvR w Any cs2 sgnE) : Calls Tryz.prog 39 #[.agg cs.toArray, .agg cs2.toArray] w (Says true w) := by
  have := ESame_any h h2 sgn_good.fitE sgn_good.fitE
  rwa [decide_eq_true rfl] at this
theorem live_encE {cs : List Value} {w : World} (h : EvR w Any cs sgnE) : Calls Tryz.prog 81 #[.agg cs.toArray] w (fun x w' => ∃ A n c, x = .returned (.slice A n c) ∧ (10 : Int) < (n : Int) ∧ Below w.heap.size w w') := by
  refine (EvEncode_any h sgn_good.puts).mono ?_
  rintro x w' ⟨v, rfl, ⟨A, c, rfl, _, _⟩, hb⟩
  exact ⟨A, _, c, rfl, by have := sgn_len; omega, hb⟩
theorem zero7_fit : Ev.zero.fit := ⟨Nat.zero_le _, Nat.zero_le _, Nat.zero_le _, Nat.zero_le _, Nat.zero_le _, Nat.zero_le _⟩
end
end Go.Proofs.YtmlnmcoophnlaaaGreat

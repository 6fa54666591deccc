/-
  fedchatref01.Same, slices.Equal, fedchatref07.Same, event.Same.
  fedchatlaw07: the worked example that every statement asks (sample, lives).
-/
import Derived.Test.YtnfbmhkjmkdmjaaGreatCSame
import Derived.Test.YtnfbmhkjmkdmjaaGreatEvVer
set_option linter.unusedVariables false
set_option linter.unusedSimpArgs false
namespace Go.Proofs.YtnfbmhkjmkdmjaaGreat
section
open Go.RowKit
attribute [local go_sem] Addr.add_mid
set_option maxRecDepth 100000 in
set_option maxHeartbeats 8000000 in
theorem R1Same_any {B B2 : Nat} {A A2 : Option Addr} {c c2 : Nat} {l m : List Int} {w : World} (hr : Row w B A (ivs l)) (hr2 : Row w B2 A2 (ivs m)) (hl : l.length ≤ 1073741824) (hm : m.length ≤ 1073741824) :
    Calls Tryz.prog 46 #[.slice A l.length c, .slice A2 m.length c2] w (Asks (decide (l = m)) w) := by
  by_cases hlm : l.length = m.length
  · have hx : ((l.length : Int) != (m.length : Int)) = false := by rw [hlm]; simp
    have HLM := hide hlm
    go_enter Tryz.func46, Tryz.ntmps46
    clear hlm
    go_wp2_with fail
    clear hx
    go_loopw [5] (fun i wr => ∃ k n : Nat, k ≤ l.length ∧ i = .int .i64 (k : Int) ∧ l.take k = m.take k ∧ wr = w.drewN n) (fun i _ => l.length - (intOf i).toNat)
    case atStart => exact ⟨0, 0, Nat.zero_le _, rfl, rfl, rfl⟩
    case round =>
      obtain ⟨k, n, hk, rfl, ht, rfl⟩ := hrel
      have HT := hide ht; clear ht
      by_cases hlt : k < l.length
      · have hlt2 : k < m.length := by rw [← HLM.out]; exact hlt
        obtain ⟨ad, rfl, _, hcell⟩ := hr.at (ivs_get l k hlt)
        obtain ⟨ad2, rfl, _, hcell2⟩ := hr2.at (ivs_get m k hlt2)
        have i0 : (0 : Int) ≤ (k : Int) := by omega
        have i1 : (k : Int) < (l.length : Int) := by omega
        have i2 : (k : Int) < (m.length : Int) := by omega
        have HE := hide (fun h : l[k] = m[k] => take_eq_step HT.out hlt hlt2 h)
        have HN := hide (fun h : l[k] ≠ m[k] => ne_of_get hlt hlt2 h)
        by_cases he : l[k] = m[k]
        · have HE' := hide (HE.out he)
          have hb : (l[k] != m[k]) = false := by rw [he]; simp
          clear he HE HN
          go_wp2_with fail
          go_quiet (fail)
          go_wp2_with fail
          go_roundw
          case rel => exact ⟨k + 1, _, by omega, by go_num, HE'.out, rfl⟩
          case measure => simp [intOf]; omega
        · have HN' := hide (HN.out he)
          have hb : (l[k] != m[k]) = true := by simpa using he
          clear he HE HN
          go_wp2_with fail
          go_quiet (fail)
          go_wp2_with fail
          go_ret
          exact asks_mk2 _ _ (decide_eq_false HN'.out).symm
      · obtain rfl : k = l.length := by omega
        have HF := hide (take_eq_fin HT.out HLM.out)
        go_wp2_with fail
        go_ret
        exact asks_mk _ (decide_eq_true HF.out).symm
  · have hx : ((l.length : Int) != (m.length : Int)) = true := by simp; omega
    have HN := hide (fun h : l = m => hlm (by rw [h]))
    clear hlm
    go_enter Tryz.func46, Tryz.ntmps46
    go_wp2_with fail
    go_ret
    exact asks_mk0 (decide_eq_false HN.out).symm
set_option maxRecDepth 100000 in
set_option maxHeartbeats 8000000 in
theorem EqInts_any {B B2 : Nat} {A A2 : Option Addr} {c c2 : Nat} {l m : List Int} {w : World} (hr : Row w B A (ivs l)) (hr2 : Row w B2 A2 (ivs m)) (hl : l.length ≤ 1073741824) (hm : m.length ≤ 1073741824) :
    Calls Tryz.prog 71 #[.slice A l.length c, .slice A2 m.length c2] w (Asks (decide (l = m)) w) := by
  by_cases hlm : l.length = m.length
  · have hx : ((l.length : Int) != (m.length : Int)) = false := by rw [hlm]; simp
    have HLM := hide hlm
    go_enter Tryz.func71, Tryz.ntmps71
    clear hlm
    go_wp2_with fail
    clear hx
    go_loopw [13] (fun i wr => ∃ k n : Nat, k ≤ l.length ∧ i = .int .i64 (k : Int) ∧ l.take k = m.take k ∧ wr = w.drewN n) (fun i _ => l.length - (intOf i).toNat)
    case atStart => exact ⟨0, 0, Nat.zero_le _, rfl, rfl, rfl⟩
    case round =>
      obtain ⟨k, n, hk, rfl, ht, rfl⟩ := hrel
      have HT := hide ht; clear ht
      by_cases hlt : k < l.length
      · have hlt2 : k < m.length := by rw [← HLM.out]; exact hlt
        obtain ⟨ad, rfl, _, hcell⟩ := hr.at (ivs_get l k hlt)
        obtain ⟨ad2, rfl, _, hcell2⟩ := hr2.at (ivs_get m k hlt2)
        have i0 : (0 : Int) ≤ (k : Int) := by omega
        have i1 : (k : Int) < (l.length : Int) := by omega
        have i2 : (k : Int) < (m.length : Int) := by omega
        have HE := hide (fun h : l[k] = m[k] => take_eq_step HT.out hlt hlt2 h)
        have HN := hide (fun h : l[k] ≠ m[k] => ne_of_get hlt hlt2 h)
        by_cases he : l[k] = m[k]
        · have HE' := hide (HE.out he)
          have hb : (l[k] != m[k]) = false := by rw [he]; simp
          clear he HE HN
          go_wp2_with fail
          go_quiet (fail)
          go_wp2_with fail
          go_roundw
          case rel => exact ⟨k + 1, _, by omega, by go_num, HE'.out, rfl⟩
          case measure => simp [intOf]; omega
        · have HN' := hide (HN.out he)
          have hb : (l[k] != m[k]) = true := by simpa using he
          clear he HE HN
          go_wp2_with fail
          go_quiet (fail)
          go_wp2_with fail
          go_ret
          exact asks_mk2 _ _ (decide_eq_false HN'.out).symm
      · obtain rfl : k = l.length := by omega
        have HF := hide (take_eq_fin HT.out HLM.out)
        go_wp2_with fail
        go_ret
        exact asks_mk _ (decide_eq_true HF.out).symm
  · have hx : ((l.length : Int) != (m.length : Int)) = true := by simp; omega
    have HN := hide (fun h : l = m => hlm (by rw [h]))
    clear hlm
    go_enter Tryz.func71, Tryz.ntmps71
    go_wp2_with fail
    go_ret
    exact asks_mk0 (decide_eq_false HN.out).symm
theorem ev_decide (a b : Ev) : decide (a = b) = (a.id == b.id && (a.room.toList == b.room.toList && (a.sender.toList == b.sender.toList && (a.kind == b.kind && (a.state == b.state && (a.key.toList == b.key.toList && (a.time == b.time && (a.depth == b.depth &&
    (decide (a.prev = b.prev) && (decide (a.auth = b.auth) && (decide (a.con = b.con) && (a.hash == b.hash && (a.server.toList == b.server.toList && a.sum == b.sum))))))))))))) := by
  obtain ⟨a1, a2, a3, a4, a5, a6, a7, a8, a9, a10, a11, a12, a13, a14⟩ := a
  obtain ⟨b1, b2, b3, b4, b5, b6, b7, b8, b9, b10, b11, b12, b13, b14⟩ := b
  rw [Bool.eq_iff_iff]
  simp only [decide_eq_true_eq, Ev.mk.injEq, Bool.and_eq_true, beq_iff_eq]
  constructor
  · rintro ⟨rfl, rfl, rfl, rfl, rfl, rfl, rfl, rfl, rfl, rfl, rfl, rfl, rfl, rfl⟩; simp
  · rintro ⟨rfl, h1, h2, rfl, rfl, h3, rfl, rfl, rfl, rfl, rfl, rfl, h4, rfl⟩
    exact ⟨rfl, str_eq_of h1, str_eq_of h2, rfl, rfl, str_eq_of h3, rfl, rfl, rfl, rfl, rfl, rfl, str_eq_of h4, rfl⟩
def Ev.fit (e : Ev) : Prop := e.prev.length ≤ 1073741824 ∧ e.auth.length ≤ 1073741824 ∧ e.con.fit
theorem evCells_arr (e : Ev) (vp vq va vd vu vk : Value) : (evCells e vp vq va vd vu vk).toArray = #[.int .i64 e.id, .string e.room, .string e.sender, .int .i64 e.kind, .bool e.state, .string e.key, .int .i64 e.time, .int .i64 e.depth, vp, vq,
    .string e.con.text, .int .i64 e.con.n, .int .i64 e.con.target, .bool e.con.thread, .string e.con.via, va, vd, vu, vk, .int .i64 e.con.lv.user, .int .i64 e.con.lv.message, .int .i64 e.con.lv.state, .int .i64 e.con.lv.invite, .int .i64 e.con.lv.kick, .int .i64 e.con.lv.ban, .int .i64 e.con.lv.redact,
    .int .i64 e.hash, .string e.server, .int .i64 e.sum] := rfl
theorem ints_in {w W : World} {A A2 : Option Addr} {c c2 : Nat} {l m : List Int} (hb : Below w.heap.size w W) (hr : Row w w.heap.size A (ivs l)) (hr2 : Row w w.heap.size A2 (ivs m)) (hl : l.length ≤ 1073741824) (hm : m.length ≤ 1073741824) :
    Calls Tryz.prog 46 #[.slice A l.length c, .slice A2 m.length c2] W (Asks (decide (l = m)) W) := R1Same_any (hr.ext hb) (hr2.ext hb) hl hm
theorem con_in {w W : World} {S S2 : Nat → Prop} {a b : Con} {va vd vu vk va' vd' vu' vk' : Value} (hb : Below w.heap.size w W) (hr : ConR w S (conCells a va vd vu vk) a) (hr2 : ConR w S2 (conCells b va' vd' vu' vk') b) (ha : a.fit) (hb' : b.fit) :
    Calls Tryz.prog 47 #[.agg #[.string a.text, .int .i64 a.n, .int .i64 a.target, .bool a.thread, .string a.via, va, vd, vu, vk, .int .i64 a.lv.user, .int .i64 a.lv.message, .int .i64 a.lv.state, .int .i64 a.lv.invite, .int .i64 a.lv.kick, .int .i64 a.lv.ban, .int .i64 a.lv.redact],
      .agg #[.string b.text, .int .i64 b.n, .int .i64 b.target, .bool b.thread, .string b.via, va', vd', vu', vk', .int .i64 b.lv.user, .int .i64 b.lv.message, .int .i64 b.lv.state, .int .i64 b.lv.invite, .int .i64 b.lv.kick, .int .i64 b.lv.ban, .int .i64 b.lv.redact]] W (Says (decide (a = b)) W) :=
  R6Same_any (hr.ext hb) (hr2.ext hb) ha hb'
theorem ev_decide2 (a b : Ev) : decide (a = b) = (a.id == b.id && (a.room.toList == b.room.toList && (a.sender.toList == b.sender.toList && (a.kind == b.kind && (a.state == b.state && (a.key.toList == b.key.toList && (a.time == b.time && (a.depth == b.depth &&
    (a.hash == b.hash && ((a.server.toList == b.server.toList && a.sum == b.sum) && (decide (a.prev = b.prev) && (decide (a.auth = b.auth) && decide (a.con = b.con))))))))))))) := by
  rw [ev_decide]
  rw [Bool.eq_iff_iff]
  simp only [Bool.and_eq_true, decide_eq_true_eq, beq_iff_eq]
  constructor
  · rintro ⟨h1, h2, h3, h4, h5, h6, h7, h8, h9, h10, h11, h12, h13, h14⟩; exact ⟨h1, h2, h3, h4, h5, h6, h7, h8, h12, ⟨h13, h14⟩, h9, h10, h11⟩
  · rintro ⟨h1, h2, h3, h4, h5, h6, h7, h8, h12, ⟨h13, h14⟩, h9, h10, h11⟩; exact ⟨h1, h2, h3, h4, h5, h6, h7, h8, h9, h10, h11, h12, h13, h14⟩
theorem ints_in2 {w W : World} {A A2 : Option Addr} {c c2 : Nat} {l m : List Int} (hb : Below w.heap.size w W) (hr : Row w w.heap.size A (ivs l)) (hr2 : Row w w.heap.size A2 (ivs m)) (hl : l.length ≤ 1073741824) (hm : m.length ≤ 1073741824) :
    Calls Tryz.prog 71 #[.slice A l.length c, .slice A2 m.length c2] W (Asks (decide (l = m)) W) := EqInts_any (hr.ext hb) (hr2.ext hb) hl hm
theorem con_in2 {w W : World} {S S2 : Nat → Prop} {a b : Con} {va vd vu vk va' vd' vu' vk' : Value} (hb : Below w.heap.size w W) (hr : ConR w S (conCells a va vd vu vk) a) (hr2 : ConR w S2 (conCells b va' vd' vu' vk') b) (ha : a.fit) (hb' : b.fit) :
    Calls Tryz.prog 51 #[.agg #[.string a.text, .int .i64 a.n, .int .i64 a.target, .bool a.thread, .string a.via, va, vd, vu, vk, .int .i64 a.lv.user, .int .i64 a.lv.message, .int .i64 a.lv.state, .int .i64 a.lv.invite, .int .i64 a.lv.kick, .int .i64 a.lv.ban, .int .i64 a.lv.redact],
      .agg #[.string b.text, .int .i64 b.n, .int .i64 b.target, .bool b.thread, .string b.via, va', vd', vu', vk', .int .i64 b.lv.user, .int .i64 b.lv.message, .int .i64 b.lv.state, .int .i64 b.lv.invite, .int .i64 b.lv.kick, .int .i64 b.lv.ban, .int .i64 b.lv.redact]] W (Says (decide (a = b)) W) :=
  CSame_any (hr.ext hb) (hr2.ext hb) ha hb'
set_option maxRecDepth 100000 in
set_option maxHeartbeats 8000000 in
theorem R7Same_any {S S2 : Nat → Prop} {cs cs2 : List Value} {a b : Ev} {w : World} (hr : EvR w S cs a) (hr2 : EvR w S2 cs2 b) (ha : a.fit) (hb : b.fit) :
    Calls Tryz.prog 20 #[.agg cs.toArray, .agg cs2.toArray] w (Says (decide (a = b)) w) := by
  obtain ⟨vp, vq, va, vd, vu, vk, rfl, h1, h2, k1, k2, k3, k4⟩ := hr
  obtain ⟨vp', vq', va', vd', vu', vk', rfl, h1', h2', k1', k2', k3', k4'⟩ := hr2
  have HC := hide (show ConR w S (conCells a.con va vd vu vk) a.con from ⟨va, vd, vu, vk, rfl, k1, k2, k3, k4⟩)
  have HC2 := hide (show ConR w S2 (conCells b.con va' vd' vu' vk') b.con from ⟨va', vd', vu', vk', rfl, k1', k2', k3', k4'⟩)
  clear k1 k2 k3 k4 k1' k2' k3' k4'
  obtain ⟨A1, c1, rfl, _, _, _, h1, _⟩ := h1.form
  obtain ⟨A2, c2, rfl, _, _, _, h2, _⟩ := h2.form
  obtain ⟨A3, c3, rfl, _, _, _, h1', _⟩ := h1'.form
  obtain ⟨A4, c4, rfl, _, _, _, h2', _⟩ := h2'.form
  have HD := hide (ev_decide a b)
  rw [evCells_arr, evCells_arr]
  obtain ⟨p1, p2, p3⟩ := ha
  obtain ⟨q1, q2, q3⟩ := hb
  have P3 := hide p3; have Q3 := hide q3; clear p3 q3
  go_enter Tryz.func20, Tryz.ntmps20
  simp only [List.append]
  go_wp2_with (first
    | (go_at_call 46; first
        | ((with_reducible refine (ints_in (w := w) (below_two w _ _) h1 h1' p1 q1).mono ?_); rintro e W1 ⟨rfl, n1, rfl⟩)
        | ((with_reducible refine (ints_in (w := w) (below_twoN w _ _ _) h2 h2' p2 q2).mono ?_); rintro e W2 ⟨rfl, n2, rfl⟩))
    | (go_at_call 47; ((with_reducible refine (con_in (w := w) (below_twoN w _ _ _) HC.out HC2.out P3.out Q3.out).mono ?_); rintro e W3 ⟨rfl, hW3⟩; have hc3 := (bcell hW3).1)))
  all_goals first
    | (go_ret
       refine ⟨?_, by first | exact below_twoN w _ _ _ | exact below_two w _ _ | exact (below_twoN w _ _ _).trans (Below.mono hW3 (below_twoN w _ _ _).size)⟩
       rw [HD.out]
       simp [*])
set_option maxRecDepth 100000 in
set_option maxHeartbeats 8000000 in
theorem ESame_any {S S2 : Nat → Prop} {cs cs2 : List Value} {a b : Ev} {w : World} (hr : EvR w S cs a) (hr2 : EvR w S2 cs2 b) (ha : a.fit) (hb : b.fit) :
    Calls Tryz.prog 31 #[.agg cs.toArray, .agg cs2.toArray] w (Says (decide (a = b)) w) := by
  obtain ⟨vp, vq, va, vd, vu, vk, rfl, h1, h2, k1, k2, k3, k4⟩ := hr
  obtain ⟨vp', vq', va', vd', vu', vk', rfl, h1', h2', k1', k2', k3', k4'⟩ := hr2
  have HC := hide (show ConR w S (conCells a.con va vd vu vk) a.con from ⟨va, vd, vu, vk, rfl, k1, k2, k3, k4⟩)
  have HC2 := hide (show ConR w S2 (conCells b.con va' vd' vu' vk') b.con from ⟨va', vd', vu', vk', rfl, k1', k2', k3', k4'⟩)
  clear k1 k2 k3 k4 k1' k2' k3' k4'
  obtain ⟨A1, c1, rfl, _, _, _, h1, _⟩ := h1.form
  obtain ⟨A2, c2, rfl, _, _, _, h2, _⟩ := h2.form
  obtain ⟨A3, c3, rfl, _, _, _, h1', _⟩ := h1'.form
  obtain ⟨A4, c4, rfl, _, _, _, h2', _⟩ := h2'.form
  have HD := hide (ev_decide2 a b)
  rw [evCells_arr, evCells_arr]
  obtain ⟨p1, p2, p3⟩ := ha
  obtain ⟨q1, q2, q3⟩ := hb
  have P3 := hide p3; have Q3 := hide q3; clear p3 q3
  go_enter Tryz.func31, Tryz.ntmps31
  simp only [List.append]
  go_wp2_with (first
    | (go_at_call 71; first
        | ((with_reducible refine (ints_in2 (w := w) (below_two w _ _) h1 h1' p1 q1).mono ?_); rintro e W1 ⟨rfl, n1, rfl⟩)
        | ((with_reducible refine (ints_in2 (w := w) (below_twoN w _ _ _) h2 h2' p2 q2).mono ?_); rintro e W2 ⟨rfl, n2, rfl⟩))
    | (go_at_call 51; ((with_reducible refine (con_in2 (w := w) (below_twoN w _ _ _) HC.out HC2.out P3.out Q3.out).mono ?_); rintro e W3 ⟨rfl, hW3⟩; have hc3 := (bcell hW3).1)))
  all_goals first
    | (go_ret
       refine ⟨?_, by first | exact below_twoN w _ _ _ | exact below_two w _ _ | exact (below_twoN w _ _ _).trans (Below.mono hW3 (below_twoN w _ _ _).size)⟩
       rw [HD.out]
       simp [*])
end

section
open Go.RowKit
attribute [local go_sem] Addr.add_mid
/-- the sample event -/
def smpE : Ev := ⟨0, ⟨#[33, 114, 58, 115]⟩, ⟨#[64, 97, 58, 115]⟩, 12, false, ⟨#[]⟩, 3, 2, [7], [4, 7], ⟨⟨#[43]⟩, 0, 5, false, ⟨#[]⟩, [], [], Lev.zero⟩, 0, ⟨#[]⟩, 0⟩
def sgnE : Ev := signE smpE ⟨#[115]⟩
theorem smp_good : smpE.good := by
  have z : ∀ n : Int, -9223372036854775808 ≤ n → n < 9223372036854775808 → I64 n := fun n h1 h2 => ⟨h1, h2⟩
  refine ⟨⟨z _ (by decide) (by decide), Nat.le_of_ble_eq_true rfl, Nat.le_of_ble_eq_true rfl, z _ (by decide) (by decide), Nat.le_of_ble_eq_true rfl, z _ (by decide) (by decide), z _ (by decide) (by decide), ?_, ?_, ?_, z _ (by decide) (by decide), Nat.le_of_ble_eq_true rfl, z _ (by decide) (by decide)⟩, Nat.le_of_ble_eq_true rfl, Nat.le_of_ble_eq_true rfl, Nat.le_of_ble_eq_true rfl, Nat.le_of_ble_eq_true rfl, Nat.le_of_ble_eq_true rfl, Nat.le_of_ble_eq_true rfl, ?_⟩
  · intro n hn; simp only [smpE, List.mem_cons, List.not_mem_nil, or_false] at hn; subst hn; exact z _ (by decide) (by decide)
  · intro n hn; simp only [smpE, List.mem_cons, List.not_mem_nil, or_false] at hn; rcases hn with rfl | rfl <;> exact z _ (by decide) (by decide)
  · exact ⟨Nat.le_of_ble_eq_true rfl, z _ (by decide) (by decide), z _ (by decide) (by decide), Nat.zero_le _, fun s hs => by simp [smpE] at hs, fun s hs => by simp [smpE] at hs, fun s hs => by simp [smpE, Lev.zero] at hs, fun s hs => by simp [smpE, Lev.zero] at hs, z _ (by decide) (by decide), z _ (by decide) (by decide), z _ (by decide) (by decide), z _ (by decide) (by decide), z _ (by decide) (by decide), z _ (by decide) (by decide), z _ (by decide) (by decide)⟩
  · exact ⟨Nat.le_of_ble_eq_true rfl, Nat.zero_le _, Nat.zero_le _, Nat.zero_le _, ⟨Nat.zero_le _, Nat.zero_le _, fun s hs => by simp [smpE, Lev.zero] at hs⟩, fun s hs => by simp [smpE] at hs, fun s hs => by simp [smpE] at hs⟩
theorem sgn_good : sgnE.good := smp_good.sign (by decide)
theorem smp_chk : evE smpE = 0 := by decide +kernel
theorem sgn_whole : wholeB sgnE = true := by decide +kernel
theorem str_whole : wholeB (stripE sgnE) = false := by decide +kernel
theorem str_text : (stripE sgnE).con.text = ⟨#[]⟩ := by decide +kernel
theorem sgn_text : sgnE.con.text = ⟨#[43]⟩ := by decide +kernel
theorem sgn_ver : verE sgnE = 0 := by decide +kernel
theorem str_ver : verE (stripE sgnE) = 0 := by decide +kernel
theorem sgn_len : 10 < (encEv sgnE).length := by decide +kernel
theorem sgn_rec : recE sgnE = sgnE := by unfold recE; rw [if_pos sgn_whole]
theorem Ev.good.fitE {e : Ev} (h : e.good) : e.fit := ⟨by have := h.prev; omega, by have := h.auth; omega, h.fit⟩
theorem lit_slc (u : World) (xs : List Int) (n : Nat) (hn : xs.length = n) (hm : n ≤ 1000) : Slc (u.alloc (.cells (ivs xs).toArray 3)) (fun b => u.heap.size ≤ b) (.slice (some ⟨u.heap.size, 0, none⟩) n n) 1 n (ivs xs) := by
  subst hn
  exact ⟨_, _, rfl, by simp [ivs], Nat.le_refl _, by unfold maxLen; omega, (fun h => nomatch h), row_lit u (ivs xs) (ivs xs).toArray 3 rfl rfl, fun _ ad ha => by injection ha with ha; subst ha; exact Nat.le_refl _⟩
def smpCells (g : Nat) : List Value := evCells smpE (.slice (some ⟨g + 1, 0, none⟩) 1 1) (.slice (some ⟨g + 1 + 1, 0, none⟩) 2 2) (.slice none 0 0) (.slice none 0 0) (.slice none 0 0) (.slice none 0 0)
theorem smp_one (g : Nat) : ∀ u ∈ smpCells g, u.oneCell' = true := List.all_eq_true.1 (show (smpCells g).all (·.oneCell') = true from rfl)
theorem smp_R (w w3 : World) (h : (((w.alloc (.cells evZero 34)).alloc (.cells #[.int .i64 7] 3)).alloc (.cells #[.int .i64 4, .int .i64 7] 3)).grownBy w3 (some w.heap.size)) : EvR w3 Any (smpCells w.heap.size) smpE ∧ Below w.heap.size w w3 := by
  obtain ⟨W0, h0⟩ : ∃ W, W = w.alloc (.cells evZero 34) := ⟨_, rfl⟩
  rw [← h0] at h
  have hz : W0.heap.size = w.heap.size + 1 := by rw [h0]; simp
  have hz1 : (W0.alloc (.cells #[.int .i64 7] 3)).heap.size = w.heap.size + 1 + 1 := by simp [hz]
  have kb : Below w.heap.size w W0 := by rw [h0]; exact ext_alloc (ext_refl w) _
  have k1 := ext_alloc (ext_refl W0) (.cells #[.int .i64 7] 3)
  have k2 := ext_alloc (ext_refl (W0.alloc (.cells #[.int .i64 7] 3))) (.cells #[.int .i64 4, .int .i64 7] 3)
  have t1 := ((lit_slc W0 [7] 1 rfl (by decide)).ext k2).grown h (fun q hq e => by injection e with e; omega)
  have t2 := (lit_slc (W0.alloc (.cells #[.int .i64 7] 3)) [4, 7] 2 rfl (by decide)).grown h (fun q hq e => by injection e with e; omega)
  rw [hz] at t1; rw [hz1] at t2
  have kb2 := ext_trans (ext_trans kb k1) k2
  exact ⟨⟨_, _, _, _, _, _, rfl, t1.any, t2.any, Slc.nil _ _ _, Slc.nil _ _ _, Slc.nil _ _ _, Slc.nil _ _ _⟩, kb2.grown h kb2.size (fun k hk => by injection hk with hk; omega)⟩
set_option maxRecDepth 100000 in
set_option maxHeartbeats 8000000 in
theorem sample_any (w : World) : Calls Tryz.prog 34 #[] w (fun x w' => ∃ cs, x = .returned (.agg cs.toArray) ∧ EvR w' Any cs smpE ∧ Below w.heap.size w w') := by
  have B := heap_alloc_new w (.cells evZero 34)
  have HR := hide (smp_R w)
  have hz : (w.alloc (.cells evZero 34)).heap.size = w.heap.size + 1 := by simp
  go_enter Tryz.func34, Tryz.ntmps34
  go_upto_region 1 with (refine wpList_zeroS rfl rfl strcE ?_)
  generalize w.alloc (.cells evZero 34) = W0 at B HR hz ⊢
  go_wp2_with (refine wpList_storeB rfl (.tmp 0) (.tmp 4) rfl rfl strcE w.heap.size 0 rfl (smpCells w.heap.size) rfl rfl (smp_one _) evZero.toList 34 (box_below B (below_two W0 _ _)) (by decide) ?_)
  intro w3 hB3 g3 hz3
  rw [patch_all evZero.toList (smpCells w.heap.size) rfl] at hB3
  have HE := hide (HR.out w3 g3)
  clear HR B g3 hz3 hz
  go_wp2_with fail
  exact bodyPost_cell strcE rfl w.heap.size rfl rfl hB3 rfl ⟨_, rfl, HE.out.1, HE.out.2⟩
/-- what stands while lives is walked -/
structure LV (g1 g2 g4 : Nat) (cs1 cs2 cs4 : List Value) (W : World) : Prop where
  b1 : W.heap[g1]? = some (.cells cs1.toArray 34 (0, 0))
  b2 : W.heap[g2]? = some (.cells cs2.toArray 34 (0, 0))
  b4 : W.heap[g4]? = some (.cells cs4.toArray 34 (0, 0))
  r1 : EvR W Any cs1 sgnE
  r2 : EvR W Any cs2 sgnE
  r4 : EvR W Any cs4 (stripE sgnE)
theorem LV.ext {g1 g2 g4 : Nat} {cs1 cs2 cs4 : List Value} {W W' : World} (h : LV g1 g2 g4 cs1 cs2 cs4 W) (k : Below W.heap.size W W') : LV g1 g2 g4 cs1 cs2 cs4 W' :=
  ⟨box_below h.b1 k, box_below h.b2 k, box_below h.b4 k, h.r1.ext k, h.r2.ext k, h.r4.ext k⟩
theorem EvR.c10 {w : World} {S : Nat → Prop} {cs : List Value} {e : Ev} (h : EvR w S cs e) : cs[10]? = some (.string e.con.text) := by obtain ⟨_, _, _, _, _, _, rfl, _⟩ := h; rfl
theorem live_sign {cs : List Value} {w : World} (h : EvR w Any cs smpE) : Calls Tryz.prog 19 #[.agg cs.toArray, .string ⟨#[115]⟩] w (fun x w' => ∃ cs', x = .returned (.agg cs'.toArray) ∧ EvR w' Any cs' sgnE ∧ Below w.heap.size w w') :=
  (Sign_any h smp_good.fit smp_good.cputs smp_good.hashed.plain.puts).mono fun x w' ⟨cs', h1, h2, h3⟩ => ⟨cs', h1, h2.any, h3⟩
theorem live_rec {cs : List Value} {w : World} (h : EvR w Any cs sgnE) : Calls Tryz.prog 23 #[.agg cs.toArray] w (fun x w' => ∃ cs', x = .returned (.tuple #[.agg cs'.toArray, .int .i64 0]) ∧ EvR w' Any cs' sgnE ∧ Below w.heap.size w w') := by
  refine (Receive_any h sgn_good).mono ?_
  rintro x w' ⟨cs', h1, h2, h3⟩
  rw [sgn_rec, sgn_ver] at h1 h2
  exact ⟨cs', h1, h2.any, h3⟩
theorem live_stripE {cs : List Value} {w : World} (h : EvR w Any cs sgnE) : Calls Tryz.prog 24 #[.agg cs.toArray] w (fun x w' => ∃ cs', x = .returned (.agg cs'.toArray) ∧ EvR w' Any cs' (stripE sgnE) ∧ Below w.heap.size w w') :=
  (EStrip_any h sgn_good.fit).mono fun x w' ⟨cs', h1, h2, h3⟩ => ⟨cs', h1, h2.any, h3⟩
theorem live_chk {cs : List Value} {w : World} (h : EvR w Any cs smpE) : Calls Tryz.prog 11 #[.agg cs.toArray] w (Errs 0 w) := by
  have := Ev.good.check h smp_good
  rwa [smp_chk] at this
theorem live_ver {cs : List Value} {w : World} (h : EvR w Any cs (stripE sgnE)) : Calls Tryz.prog 25 #[.agg cs.toArray] w (Errs 0 w) := by
  have := Verify_any h sgn_good.strip
  rwa [str_ver] at this
theorem live_wh1 {cs : List Value} {w : World} (h : EvR w Any cs sgnE) : Calls Tryz.prog 17 #[.agg cs.toArray] w (Says true w) := by
  have := Whole_any h sgn_good.cputs
  rwa [sgn_whole] at this
theorem live_wh2 {cs : List Value} {w : World} (h : EvR w Any cs (stripE sgnE)) : Calls Tryz.prog 17 #[.agg cs.toArray] w (Says false w) := by
  have := Whole_any h sgn_good.strip.cputs
  rwa [str_whole] at this
theorem live_same {cs cs2 : List Value} {w : World} (h : EvR w Any cs sgnE) (h2 : EvR w Any cs2 sgnE) : Calls Tryz.prog 31 #[.agg cs.toArray, .agg cs2.toArray] w (Says true w) := by
  have := ESame_any h h2 sgn_good.fitE sgn_good.fitE
  rwa [decide_eq_true rfl] at this
theorem live_encE {cs : List Value} {w : World} (h : EvR w Any cs sgnE) : Calls Tryz.prog 28 #[.agg cs.toArray] w (fun x w' => ∃ A n c, x = .returned (.slice A n c) ∧ (10 : Int) < (n : Int) ∧ Below w.heap.size w w') := by
  refine (EvEncode_any h sgn_good.puts).mono ?_
  rintro x w' ⟨v, rfl, ⟨A, c, rfl, _, _⟩, hb⟩
  exact ⟨A, _, c, rfl, by have := sgn_len; omega, hb⟩
theorem zero7_fit : Ev.zero.fit := ⟨Nat.zero_le _, Nat.zero_le _, Nat.zero_le _, Nat.zero_le _, Nat.zero_le _, Nat.zero_le _⟩
set_option maxRecDepth 100000 in
set_option maxHeartbeats 20000000 in
theorem lives_any (w : World) : Calls Tryz.prog 10 #[] w (Says true w) := by
  go_enter Tryz.func10, Tryz.ntmps10
  go_upto_region 2 with (first
    | (go_at_call 34; refine (sample_any _).mono ?_; rintro x w1 ⟨cs0, rfl, R0, k1⟩)
    | (go_at_call 19; refine (live_sign R0).mono ?_; rintro x w2 ⟨cs1, rfl, R1, k2⟩)
    | refine wpList_newS rfl rfl strcE rfl (.tmp 1) (.tmp 6) rfl rfl rfl cs1.toArray rfl (by simpa using R1.length) (by simpa using R1.one) ?_)
  have B1 := heap_alloc_new w2 (.cells cs1.toArray 34)
  have k3 := ext_alloc (ext_refl w2) (.cells cs1.toArray 34)
  have hb := ext_trans (ext_trans k1 k2) k3
  have HL1 := hide R1.length
  have R1 := hide (R1.ext k3)
  generalize w2.alloc (.cells cs1.toArray 34) = w3 at B1 R1 hb ⊢
  generalize w2.heap.size = g1 at B1 ⊢
  have HB1 := hide B1
  clear k1 k2 k3 R0 B1
  go_upto_region 3 with (first
    | refine wpList_loadS rfl (.tmp 1) rfl strcE ⟨g1, 0, none⟩ rfl cs1 HL1.out (box_all HB1.out) ?_
    | (go_at_call 23; refine (live_rec R1.out).mono ?_; rintro x w4 ⟨cs2, rfl, R2, k4⟩)
    | refine wpList_newS rfl rfl strcE rfl (.tmp 2) (.tmp 10) rfl rfl rfl cs2.toArray rfl (by simpa using R2.length) (by simpa using R2.one) ?_)
  have B2 := heap_alloc_new w4 (.cells cs2.toArray 34)
  have k5 := ext_alloc (ext_refl w4) (.cells cs2.toArray 34)
  have k45 := ext_trans k4 k5
  have hb := ext_trans hb k45
  have HL2 := hide R2.length
  have R2 := hide (R2.ext k5)
  have R1 := hide (R1.out.ext k45)
  have HB1 := hide (box_below HB1.out k45)
  generalize w4.alloc (.cells cs2.toArray 34) = w5 at B2 R1 R2 HB1 hb ⊢
  generalize w4.heap.size = g2 at B2 ⊢
  have HB2 := hide B2
  clear k4 k5 k45 B2
  go_upto_region 4 with (first
    | refine wpList_loadS rfl (.tmp 1) rfl strcE ⟨g1, 0, none⟩ rfl cs1 HL1.out (box_all HB1.out) ?_
    | (go_at_call 24; refine (live_stripE R1.out).mono ?_; rintro x w6 ⟨cs4, rfl, R4, k6⟩)
    | refine wpList_newS rfl rfl strcE rfl (.tmp 4) (.tmp 13) rfl rfl rfl cs4.toArray rfl (by simpa using R4.length) (by simpa using R4.one) ?_)
  have B4 := heap_alloc_new w6 (.cells cs4.toArray 34)
  have k7 := ext_alloc (ext_refl w6) (.cells cs4.toArray 34)
  have k67 := ext_trans k6 k7
  have hb := ext_trans hb k67
  have HL4 := hide R4.length
  have Z0 : LV g1 g2 w6.heap.size cs1 cs2 cs4 (w6.alloc (.cells cs4.toArray 34)) := ⟨box_below HB1.out k67, box_below HB2.out k67, B4, R1.out.ext k67, R2.out.ext k67, R4.ext k7⟩
  generalize w6.alloc (.cells cs4.toArray 34) = w7 at Z0 hb ⊢
  generalize w6.heap.size = g4 at Z0 ⊢
  have t2 := Z0.r2.c10
  have t4 := Z0.r4.c10
  rw [sgn_text] at t2
  rw [str_text] at t4
  clear k6 k7 k67 B4 R1 R2 R4 HB1 HB2
  go_wp2_with (first
    | (go_at_call 34; refine (sample_any _).mono ?_; rintro x y1 ⟨cs9, rfl, R9, m1⟩; have R9 := hide R9; have Z1 := Z0.ext m1; have hb1 := ext_trans hb m1)
    | (go_at_call 11; refine (live_chk R9.out).mono ?_; rintro x y2 ⟨rfl, m2⟩; have Z2 := Z1.ext m2; have hb2 := ext_trans hb1 m2)
    | refine wpList_loadS rfl (.tmp 1) rfl strcE ⟨g1, 0, none⟩ rfl cs1 HL1.out (by first | exact box_all Z2.b1 | exact box_all Z6.b1 | exact box_all Z4.b1) ?_
    | refine wpList_loadS rfl (.tmp 2) rfl strcE ⟨g2, 0, none⟩ rfl cs2 HL2.out (box_all Z4.b2) ?_
    | refine wpList_loadS rfl (.tmp 4) rfl strcE ⟨g4, 0, none⟩ rfl cs4 HL4.out (by first | exact box_all Z3.b4 | exact box_all Z5.b4) ?_
    | (go_at_call 17; first
        | ((with_reducible refine (live_wh1 Z2.r1).mono ?_); rintro x y3 ⟨rfl, m3⟩; have Z3 := Z2.ext m3; have hb3 := ext_trans hb2 m3)
        | ((with_reducible refine (live_wh2 Z3.r4).mono ?_); rintro x y4 ⟨rfl, m4⟩; have Z4 := Z3.ext m4; have hb4 := ext_trans hb3 m4; have q4 := box_at Z4.b4 t4; have q2 := box_at Z4.b2 t2))
    | (go_at_call 31; refine (live_same Z4.r1 Z4.r2).mono ?_; rintro x y5 ⟨rfl, m5⟩; have Z5 := Z4.ext m5; have hb5 := ext_trans hb4 m5)
    | (go_at_call 25; refine (live_ver Z5.r4).mono ?_; rintro x y6 ⟨rfl, m6⟩; have Z6 := Z5.ext m6; have hb6 := ext_trans hb5 m6)
    | (go_at_call 28; refine (live_encE Z6.r1).mono ?_; rintro x y7 ⟨Ae, ne, ce, rfl, hne, m7⟩))
  go_ret
  exact ⟨by rfl, ext_trans hb6 m7⟩
end
end Go.Proofs.YtnfbmhkjmkdmjaaGreat

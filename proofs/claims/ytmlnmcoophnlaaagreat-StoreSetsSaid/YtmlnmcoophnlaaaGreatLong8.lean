/-
  Reference: Long of an event.
-/
import Derived.Test.YtmlnmcoophnlaaaGreatEv
import Derived.Test.YtmlnmcoophnlaaaGreatAggs
import Derived.Test.YtmlnmcoophnlaaaGreatRows
import Derived.Deep.QuietTactic
import Derived.BigQuiet
set_option linter.unusedVariables false
set_option linter.unusedSimpArgs false
namespace Go.Proofs.YtmlnmcoophnlaaaGreat
open Go.RowKit
attribute [local go_sem] Addr.add_mid
theorem evCells_arr8 (e : Ev) (vp vq va vd vu vk : Value) : (evCells e vp vq va vd vu vk).toArray = #[.int .i64 e.id, .string e.room, .string e.sender, .int .i64 e.kind, .bool e.state, .string e.key, .int .i64 e.time, .int .i64 e.depth, vp, vq,
    .string e.con.text, .int .i64 e.con.n, .int .i64 e.con.target, .bool e.con.thread, .string e.con.via, va, vd, vu, vk, .int .i64 e.con.lv.user, .int .i64 e.con.lv.message, .int .i64 e.con.lv.state, .int .i64 e.con.lv.invite, .int .i64 e.con.lv.kick, .int .i64 e.con.lv.ban, .int .i64 e.con.lv.redact,
    .int .i64 e.hash, .string e.server, .int .i64 e.sum] := rfl
/-- what Long does not complain about -/
structure Ev.short (e : Ev) : Prop where
  prev : e.prev.length ≤ 40
  auth : e.auth.length ≤ 40
  allow : e.con.allow.length ≤ 40
  deny : e.con.deny.length ≤ 40
  users : e.con.lv.users.length ≤ 40
  kinds : e.con.lv.kinds.length ≤ 40
  room : e.room.size ≤ 2000
  sender : e.sender.size ≤ 2000
  key : e.key.size ≤ 2000
  text : e.con.text.size ≤ 2000
  via : e.con.via.size ≤ 2000
  server : e.server.size ≤ 2000
  allows : ∀ s ∈ e.con.allow, s.size ≤ 2000
  denies : ∀ s ∈ e.con.deny, s.size ≤ 2000
  names : ∀ p ∈ e.con.lv.users, p.1.size ≤ 2000
def LongV (e : Ev) (w : World) (x : Ending) (w' : World) : Prop := ∃ b, x = .returned (.bool b) ∧ (b = false → e.short) ∧ Below w.heap.size w w'
theorem longV_yes {e : Ev} {w w' : World} (hb : Below w.heap.size w w') : LongV e w (.returned (.bool true)) w' := ⟨true, rfl, nofun, hb⟩

theorem all_step8 {α : Type} {l : List α} {f : α → Nat} {m k : Nat} (h : ∀ s ∈ l.take k, f s ≤ m) (hk : k < l.length) (hs : f l[k] ≤ m) : ∀ s ∈ l.take (k + 1), f s ≤ m := by
  rw [List.take_succ_eq_append_getElem hk]
  intro s hs'
  rcases List.mem_append.1 hs' with h1 | h1
  · exact h s h1
  · rw [List.mem_singleton] at h1; rw [h1]; exact hs

set_option maxRecDepth 100000 in
set_option maxHeartbeats 4000000 in
theorem R8Long_small {S : Nat → Prop} {cs : List Value} {e : Ev} {w : World} (hr : EvR w S cs e) (g1 : e.prev.length ≤ 40) (g2 : e.auth.length ≤ 40) (g3 : e.con.allow.length ≤ 40) (g4 : e.con.deny.length ≤ 40) (g5 : e.con.lv.users.length ≤ 40) (g6 : e.con.lv.kinds.length ≤ 40)
    (g7 : e.room.size ≤ 2000) (g8 : e.sender.size ≤ 2000) (g9 : e.key.size ≤ 2000) (g10 : e.con.text.size ≤ 2000) (g11 : e.con.via.size ≤ 2000) (g12 : e.server.size ≤ 2000) :
    Calls Tryz.prog 11 #[.agg cs.toArray] w (LongV e w) := by
  obtain ⟨vp, vq, va, vd, vu, vk, rfl, h1, h2, h3, h4, h5, h6⟩ := hr
  obtain ⟨A1, c1, rfl, _, _, _, _, _⟩ := h1.form
  obtain ⟨A2, c2, rfl, _, _, _, _, _⟩ := h2.form
  obtain ⟨A3, c3, rfl, _, _, _, h3, _⟩ := h3.form
  obtain ⟨A4, c4, rfl, _, _, _, h4, _⟩ := h4.form
  obtain ⟨A5, c5, rfl, _, _, _, h5, _⟩ := h5.form
  obtain ⟨A6, c6, rfl, _, _, _, _, _⟩ := h6.form
  clear h1 h2 h6
  rw [evCells_arr8]
  go_enter Tryz.func11, Tryz.ntmps11
  go_wp2_with fail
  go_loop [4] (fun i => ∃ k : Nat, k ≤ e.con.allow.length ∧ i = .int .i64 (k : Int) ∧ Hid (∀ s ∈ e.con.allow.take k, s.size ≤ 2000)) (fun i => e.con.allow.length - (intOf i).toNat)
  case atStart => exact ⟨0, Nat.zero_le _, rfl, by simp [Hid]⟩
  case round =>
  obtain ⟨k, hk, rfl, HT⟩ := hrel
  by_cases hlt : k < e.con.allow.length
  · obtain ⟨b, o, rfl, hb, hc⟩ := h3.fix (svs_get e.con.allow k hlt)
    have hcell := hc _ _ (svs_get e.con.allow k hlt)
    clear hc
    by_cases hs : e.con.allow[k].size ≤ 2000
    · have HE' := hide (all_step8 (f := fun s => s.size) HT.out hlt hs)
      go_wp2_with fail
      go_round
      case rel => exact ⟨k + 1, by omega, by go_num, HE'.out⟩
      case measure => simp [intOf]; omega
    · go_wp2_with fail
      go_ret
      exact longV_yes (ext_alloc (ext_alloc (ext_refl w) _) _)
  obtain rfl : k = e.con.allow.length := by omega
  have H4 := hide (show ∀ s ∈ e.con.allow, s.size ≤ 2000 by have := HT.out; rwa [List.take_length] at this)
  clear HT
  go_wp2_with fail
  go_loop [5] (fun i => ∃ k : Nat, k ≤ e.con.deny.length ∧ i = .int .i64 (k : Int) ∧ Hid (∀ s ∈ e.con.deny.take k, s.size ≤ 2000)) (fun i => e.con.deny.length - (intOf i).toNat)
  case atStart => exact ⟨0, Nat.zero_le _, rfl, by simp [Hid]⟩
  case round =>
  obtain ⟨k, hk, rfl, HT⟩ := hrel
  by_cases hlt : k < e.con.deny.length
  · obtain ⟨b, o, rfl, hb, hc⟩ := h4.fix (svs_get e.con.deny k hlt)
    have hcell := hc _ _ (svs_get e.con.deny k hlt)
    clear hc
    by_cases hs : e.con.deny[k].size ≤ 2000
    · have HE' := hide (all_step8 (f := fun s => s.size) HT.out hlt hs)
      go_wp2_with fail
      go_round
      case rel => exact ⟨k + 1, by omega, by go_num, HE'.out⟩
      case measure => simp [intOf]; omega
    · go_wp2_with fail
      go_ret
      exact longV_yes (ext_alloc (ext_alloc (ext_refl w) _) _)
  obtain rfl : k = e.con.deny.length := by omega
  have H5 := hide (show ∀ s ∈ e.con.deny, s.size ≤ 2000 by have := HT.out; rwa [List.take_length] at this)
  clear HT
  go_wp2_with fail
  go_loop [6] (fun i => ∃ k : Nat, k ≤ e.con.lv.users.length ∧ i = .int .i64 (k : Int) ∧ Hid (∀ s ∈ e.con.lv.users.take k, s.1.size ≤ 2000)) (fun i => e.con.lv.users.length - (intOf i).toNat)
  case atStart => exact ⟨0, Nat.zero_le _, rfl, by simp [Hid]⟩
  case round =>
  obtain ⟨k, hk, rfl, HT⟩ := hrel
  by_cases hlt : k < e.con.lv.users.length
  · obtain ⟨b, o, rfl, hb, hc⟩ := h5.fix ((ucs_get e.con.lv.users k hlt).1)
    have hcell := hc _ _ ((ucs_get e.con.lv.users k hlt).1)
    clear hc
    by_cases hs : e.con.lv.users[k].1.size ≤ 2000
    · have HE' := hide (all_step8 (f := fun s => s.1.size) HT.out hlt hs)
      go_wp2_with fail
      go_round
      case rel => exact ⟨k + 1, by omega, by go_num, HE'.out⟩
      case measure => simp [intOf]; omega
    · go_wp2_with fail
      go_ret
      exact longV_yes (ext_alloc (ext_alloc (ext_refl w) _) _)
  obtain rfl : k = e.con.lv.users.length := by omega
  have H6 := hide (show ∀ s ∈ e.con.lv.users, s.1.size ≤ 2000 by have := HT.out; rwa [List.take_length] at this)
  clear HT
  go_wp2_with fail
  go_ret
  exact ⟨_, rfl, fun _ => ⟨g1, g2, g3, g4, g5, g6, g7, g8, g9, g10, g11, g12, H4.out, H5.out, H6.out⟩, ext_alloc (ext_alloc (ext_refl w) _) _⟩

set_option maxRecDepth 100000 in
set_option maxHeartbeats 4000000 in
theorem R8Long_big {S : Nat → Prop} {cs : List Value} {e : Ev} {w : World} (hr : EvR w S cs e) (hbig : Hid (¬ (e.prev.length ≤ 40 ∧ e.auth.length ≤ 40 ∧ e.con.allow.length ≤ 40 ∧ e.con.deny.length ≤ 40 ∧ e.con.lv.users.length ≤ 40 ∧ e.con.lv.kinds.length ≤ 40 ∧
    e.room.size ≤ 2000 ∧ e.sender.size ≤ 2000 ∧ e.key.size ≤ 2000 ∧ e.con.text.size ≤ 2000 ∧ e.con.via.size ≤ 2000 ∧ e.server.size ≤ 2000))) :
    Calls Tryz.prog 11 #[.agg cs.toArray] w (LongV e w) := by
  obtain ⟨vp, vq, va, vd, vu, vk, rfl, h1, h2, h3, h4, h5, h6⟩ := hr
  obtain ⟨A1, c1, rfl, _, _, _, _, _⟩ := h1.form
  obtain ⟨A2, c2, rfl, _, _, _, _, _⟩ := h2.form
  obtain ⟨A3, c3, rfl, _, _, _, _, _⟩ := h3.form
  obtain ⟨A4, c4, rfl, _, _, _, _, _⟩ := h4.form
  obtain ⟨A5, c5, rfl, _, _, _, _, _⟩ := h5.form
  obtain ⟨A6, c6, rfl, _, _, _, _, _⟩ := h6.form
  clear h1 h2 h3 h4 h5 h6
  rw [evCells_arr8]
  go_enter Tryz.func11, Tryz.ntmps11
  go_wp2_with fail
  all_goals first
    | (go_ret
       exact longV_yes (ext_alloc (ext_alloc (ext_refl w) _) _))
    | (go_ret
       exact longV_yes (ext_alloc (ext_refl w) _))
    | exact absurd ⟨by omega, by omega, by omega, by omega, by omega, by omega, by omega, by omega, by omega, by omega, by omega, by omega⟩ hbig.out

theorem R8Long_any {S : Nat → Prop} {cs : List Value} {e : Ev} {w : World} (hr : EvR w S cs e) : Calls Tryz.prog 11 #[.agg cs.toArray] w (LongV e w) := by
  by_cases h : (e.prev.length ≤ 40 ∧ e.auth.length ≤ 40 ∧ e.con.allow.length ≤ 40 ∧ e.con.deny.length ≤ 40 ∧ e.con.lv.users.length ≤ 40 ∧ e.con.lv.kinds.length ≤ 40 ∧
    e.room.size ≤ 2000 ∧ e.sender.size ≤ 2000 ∧ e.key.size ≤ 2000 ∧ e.con.text.size ≤ 2000 ∧ e.con.via.size ≤ 2000 ∧ e.server.size ≤ 2000)
  · obtain ⟨g1, g2, g3, g4, g5, g6, g7, g8, g9, g10, g11, g12⟩ := h
    exact R8Long_small hr g1 g2 g3 g4 g5 g6 g7 g8 g9 g10 g11 g12
  · exact R8Long_big hr h
end Go.Proofs.YtmlnmcoophnlaaaGreat

/-
  Reference: Long of an event, Great of a list of events.
  Reference: Great of a list of events.
  Small functions of a view: Whole, Ids, Great, Large, Same on equal views, Clip.
-/
import Derived.Test.YtbehflldghhopaaFreshs
import Derived.Test.YtbehflldghhopaaSamesB
set_option linter.unusedVariables false
set_option linter.unusedSimpArgs false
namespace Go.Proofs.Ytbehflldghhopaa
section
open Go.RowKit
attribute [local go_sem] Addr.add_mid

/-- what Long does not complain about -/
structure Ev.short (e : Ev) : Prop where
  prev : e.prev.length ≤ 40
  auth : e.auth.length ≤ 40
  allow : e.con.allow.length ≤ 40
  deny : e.con.deny.length ≤ 40
  users : e.con.lv.users.length ≤ 40
  kinds : e.con.lv.kinds.length ≤ 40
  room : e.room.size ≤ 2000
  sender : e.sender.size ≤ 2000
  key : e.key.size ≤ 2000
  text : e.con.text.size ≤ 2000
  via : e.con.via.size ≤ 2000
  server : e.server.size ≤ 2000
  allows : ∀ s ∈ e.con.allow, s.size ≤ 2000
  denies : ∀ s ∈ e.con.deny, s.size ≤ 2000
  names : ∀ p ∈ e.con.lv.users, p.1.size ≤ 2000
def LongV (e : Ev) (w : World) (x : Ending) (w' : World) : Prop := ∃ b, x = .returned (.bool b) ∧ (b = false → e.short) ∧ Below w.heap.size w w'
theorem longV_yes {e : Ev} {w w' : World} (hb : Below w.heap.size w w') : LongV e w (.returned (.bool true)) w' := ⟨true, rfl, nofun, hb⟩

theorem all_step {α : Type} {l : List α} {f : α → Nat} {m k : Nat} (h : ∀ s ∈ l.take k, f s ≤ m) (hk : k < l.length) (hs : f l[k] ≤ m) : ∀ s ∈ l.take (k + 1), f s ≤ m := by
  rw [List.take_succ_eq_append_getElem hk]
  intro s hs'
  rcases List.mem_append.1 hs' with h1 | h1
  · exact h s h1
  · rw [List.mem_singleton] at h1; rw [h1]; exact hs

set_option maxRecDepth 100000 in
set_option maxHeartbeats 4000000 in
theorem R8Long_small {S : Nat → Prop} {cs : List Value} {e : Ev} {w : World} (hr : EvR w S cs e) (g1 : e.prev.length ≤ 40) (g2 : e.auth.length ≤ 40) (g3 : e.con.allow.length ≤ 40) (g4 : e.con.deny.length ≤ 40) (g5 : e.con.lv.users.length ≤ 40) (g6 : e.con.lv.kinds.length ≤ 40)
    (g7 : e.room.size ≤ 2000) (g8 : e.sender.size ≤ 2000) (g9 : e.key.size ≤ 2000) (g10 : e.con.text.size ≤ 2000) (g11 : e.con.via.size ≤ 2000) (g12 : e.server.size ≤ 2000) :
    Calls Try.prog 43 #[.agg cs.toArray] w (LongV e w) := by
  obtain ⟨vp, vq, va, vd, vu, vk, rfl, h1, h2, h3, h4, h5, h6⟩ := hr
  obtain ⟨A1, c1, rfl, _, _, _, _, _⟩ := h1.form
  obtain ⟨A2, c2, rfl, _, _, _, _, _⟩ := h2.form
  obtain ⟨A3, c3, rfl, _, _, _, h3, _⟩ := h3.form
  obtain ⟨A4, c4, rfl, _, _, _, h4, _⟩ := h4.form
  obtain ⟨A5, c5, rfl, _, _, _, h5, _⟩ := h5.form
  obtain ⟨A6, c6, rfl, _, _, _, _, _⟩ := h6.form
  clear h1 h2 h6
  rw [evCells_arr]
  go_enter Try.func43, Try.ntmps43
  go_wp2_with fail
  go_loop [4] (fun i => ∃ k : Nat, k ≤ e.con.allow.length ∧ i = .int .i64 (k : Int) ∧ Hid (∀ s ∈ e.con.allow.take k, s.size ≤ 2000)) (fun i => e.con.allow.length - (intOf i).toNat)
  case atStart => exact ⟨0, Nat.zero_le _, rfl, by simp [Hid]⟩
  case round =>
  obtain ⟨k, hk, rfl, HT⟩ := hrel
  by_cases hlt : k < e.con.allow.length
  · obtain ⟨b, o, rfl, hb, hc⟩ := h3.fix (svs_get e.con.allow k hlt)
    have hcell := hc _ _ (svs_get e.con.allow k hlt)
    clear hc
    by_cases hs : e.con.allow[k].size ≤ 2000
    · have HE' := hide (all_step (f := fun s => s.size) HT.out hlt hs)
      go_wp2_with fail
      go_round
      case rel => exact ⟨k + 1, by omega, by go_num, HE'.out⟩
      case measure => simp [intOf]; omega
    · go_wp2_with fail
      go_ret
      exact longV_yes (ext_alloc (ext_alloc (ext_refl w) _) _)
  obtain rfl : k = e.con.allow.length := by omega
  have H4 := hide (show ∀ s ∈ e.con.allow, s.size ≤ 2000 by have := HT.out; rwa [List.take_length] at this)
  clear HT
  go_wp2_with fail
  go_loop [5] (fun i => ∃ k : Nat, k ≤ e.con.deny.length ∧ i = .int .i64 (k : Int) ∧ Hid (∀ s ∈ e.con.deny.take k, s.size ≤ 2000)) (fun i => e.con.deny.length - (intOf i).toNat)
  case atStart => exact ⟨0, Nat.zero_le _, rfl, by simp [Hid]⟩
  case round =>
  obtain ⟨k, hk, rfl, HT⟩ := hrel
  by_cases hlt : k < e.con.deny.length
  · obtain ⟨b, o, rfl, hb, hc⟩ := h4.fix (svs_get e.con.deny k hlt)
    have hcell := hc _ _ (svs_get e.con.deny k hlt)
    clear hc
    by_cases hs : e.con.deny[k].size ≤ 2000
    · have HE' := hide (all_step (f := fun s => s.size) HT.out hlt hs)
      go_wp2_with fail
      go_round
      case rel => exact ⟨k + 1, by omega, by go_num, HE'.out⟩
      case measure => simp [intOf]; omega
    · go_wp2_with fail
      go_ret
      exact longV_yes (ext_alloc (ext_alloc (ext_refl w) _) _)
  obtain rfl : k = e.con.deny.length := by omega
  have H5 := hide (show ∀ s ∈ e.con.deny, s.size ≤ 2000 by have := HT.out; rwa [List.take_length] at this)
  clear HT
  go_wp2_with fail
  go_loop [6] (fun i => ∃ k : Nat, k ≤ e.con.lv.users.length ∧ i = .int .i64 (k : Int) ∧ Hid (∀ s ∈ e.con.lv.users.take k, s.1.size ≤ 2000)) (fun i => e.con.lv.users.length - (intOf i).toNat)
  case atStart => exact ⟨0, Nat.zero_le _, rfl, by simp [Hid]⟩
  case round =>
  obtain ⟨k, hk, rfl, HT⟩ := hrel
  by_cases hlt : k < e.con.lv.users.length
  · obtain ⟨b, o, rfl, hb, hc⟩ := h5.fix ((ucs_get e.con.lv.users k hlt).1)
    have hcell := hc _ _ ((ucs_get e.con.lv.users k hlt).1)
    clear hc
    by_cases hs : e.con.lv.users[k].1.size ≤ 2000
    · have HE' := hide (all_step (f := fun s => s.1.size) HT.out hlt hs)
      go_wp2_with fail
      go_round
      case rel => exact ⟨k + 1, by omega, by go_num, HE'.out⟩
      case measure => simp [intOf]; omega
    · go_wp2_with fail
      go_ret
      exact longV_yes (ext_alloc (ext_alloc (ext_refl w) _) _)
  obtain rfl : k = e.con.lv.users.length := by omega
  have H6 := hide (show ∀ s ∈ e.con.lv.users, s.1.size ≤ 2000 by have := HT.out; rwa [List.take_length] at this)
  clear HT
  go_wp2_with fail
  go_ret
  exact ⟨_, rfl, fun _ => ⟨g1, g2, g3, g4, g5, g6, g7, g8, g9, g10, g11, g12, H4.out, H5.out, H6.out⟩, ext_alloc (ext_alloc (ext_refl w) _) _⟩

set_option maxRecDepth 100000 in
set_option maxHeartbeats 4000000 in
theorem R8Long_big {S : Nat → Prop} {cs : List Value} {e : Ev} {w : World} (hr : EvR w S cs e) (hbig : Hid (¬ (e.prev.length ≤ 40 ∧ e.auth.length ≤ 40 ∧ e.con.allow.length ≤ 40 ∧ e.con.deny.length ≤ 40 ∧ e.con.lv.users.length ≤ 40 ∧ e.con.lv.kinds.length ≤ 40 ∧
    e.room.size ≤ 2000 ∧ e.sender.size ≤ 2000 ∧ e.key.size ≤ 2000 ∧ e.con.text.size ≤ 2000 ∧ e.con.via.size ≤ 2000 ∧ e.server.size ≤ 2000))) :
    Calls Try.prog 43 #[.agg cs.toArray] w (LongV e w) := by
  obtain ⟨vp, vq, va, vd, vu, vk, rfl, h1, h2, h3, h4, h5, h6⟩ := hr
  obtain ⟨A1, c1, rfl, _, _, _, _, _⟩ := h1.form
  obtain ⟨A2, c2, rfl, _, _, _, _, _⟩ := h2.form
  obtain ⟨A3, c3, rfl, _, _, _, _, _⟩ := h3.form
  obtain ⟨A4, c4, rfl, _, _, _, _, _⟩ := h4.form
  obtain ⟨A5, c5, rfl, _, _, _, _, _⟩ := h5.form
  obtain ⟨A6, c6, rfl, _, _, _, _, _⟩ := h6.form
  clear h1 h2 h3 h4 h5 h6
  rw [evCells_arr]
  go_enter Try.func43, Try.ntmps43
  go_wp2_with fail
  all_goals first
    | (go_ret
       exact longV_yes (ext_alloc (ext_alloc (ext_refl w) _) _))
    | (go_ret
       exact longV_yes (ext_alloc (ext_refl w) _))
    | exact absurd ⟨by omega, by omega, by omega, by omega, by omega, by omega, by omega, by omega, by omega, by omega, by omega, by omega⟩ hbig.out

theorem R8Long_any {S : Nat → Prop} {cs : List Value} {e : Ev} {w : World} (hr : EvR w S cs e) : Calls Try.prog 43 #[.agg cs.toArray] w (LongV e w) := by
  by_cases h : (e.prev.length ≤ 40 ∧ e.auth.length ≤ 40 ∧ e.con.allow.length ≤ 40 ∧ e.con.deny.length ≤ 40 ∧ e.con.lv.users.length ≤ 40 ∧ e.con.lv.kinds.length ≤ 40 ∧
    e.room.size ≤ 2000 ∧ e.sender.size ≤ 2000 ∧ e.key.size ≤ 2000 ∧ e.con.text.size ≤ 2000 ∧ e.con.via.size ≤ 2000 ∧ e.server.size ≤ 2000)
  · obtain ⟨g1, g2, g3, g4, g5, g6, g7, g8, g9, g10, g11, g12⟩ := h
    exact R8Long_small hr g1 g2 g3 g4 g5 g6 g7 g8 g9 g10 g11 g12
  · exact R8Long_big hr h

def GreatV (l : List Ev) (n : Nat) (w : World) (x : Ending) (w' : World) : Prop := ∃ b, x = .returned (.bool b) ∧ (b = false → l.length ≤ n ∧ ∀ e ∈ l, e.short) ∧ Below w.heap.size w w'
theorem greatV_yes {l : List Ev} {n : Nat} {w w' : World} (hb : Below w.heap.size w w') : GreatV l n w (.returned (.bool true)) w' := ⟨true, rfl, nofun, hb⟩
theorem short_step {l : List Ev} {k : Nat} (h : ∀ s ∈ l.take k, s.short) (hk : k < l.length) (hs : l[k].short) : ∀ s ∈ l.take (k + 1), s.short := by
  rw [List.take_succ_eq_append_getElem hk]
  intro s hs'
  rcases List.mem_append.1 hs' with h1 | h1
  · exact h s h1
  · rw [List.mem_singleton] at h1; rw [h1]; exact hs
end

section
open Go.RowKit
attribute [local go_sem] Addr.add_mid

set_option maxRecDepth 100000 in
set_option maxHeartbeats 1000000 in
theorem R8Great_any {S : Nat → Prop} {v : Value} {l : List Ev} {n : Nat} {w : World} (hr : EvsR w S v l) (hn : n ≤ 1000000) :
    Calls Try.prog 24 #[v, .int .i64 (n : Int)] w (GreatV l n w) := by
  obtain ⟨A, c, css, rfl, h1, h2, _, hr, ht⟩ := hr.form
  by_cases hln : l.length ≤ n
  · have hcl : decide (n < l.length) = false := by simp; omega
    have hci : decide ((n : Int) < (l.length : Int)) = false := by simp; omega
    have HLN := hide hln
    have hl' : l.length ≤ 1000000 := by omega
    clear hln
    go_enter Try.func24, Try.ntmps24
    go_wp2_with fail
    clear hcl hci
    go_loopw [5] (fun i wr => ∃ k : Nat, k ≤ l.length ∧ i = .int .i64 (k : Int) ∧ Hid (∀ e ∈ l.take k, e.short) ∧ Below w.heap.size w wr) (fun i _ => l.length - (intOf i).toNat)
    case atStart => exact ⟨0, Nat.zero_le _, rfl, by simp [Hid], ext_refl w⟩
    case round =>
      obtain ⟨k, hk, rfl, HT, hnx⟩ := hrel
      by_cases hlt : k < l.length
      · obtain ⟨b1, o1, cs1, rfl, hb1, he1, _, hc1⟩ := evs_at (hr.ext hnx) (ht.imp fun _ _ h => h.ext hnx) k hlt
        have hn1 := he1.length
        have HC := hide (R8Long_any he1)
        have r1 : wr.rangeAt b1 (o1 + k * 29) cs1 := hc1
        clear hc1 he1 hr ht
        go_wp2_with (refine wpList_loadS rfl (.tmp 18) rfl strcE ⟨b1, o1 + k * 29, none⟩ rfl cs1 hn1 (cells_range r1) ?_)
        refine HC.out.mono ?_
        rintro e w1 ⟨b, rfl, hb, hb1⟩
        have hnx' := hnx.trans (hb1.mono hnx.size)
        clear HC r1 hb1
        cases b with
        | false =>
          have HE := hide (short_step HT.out hlt (hb rfl))
          clear hb
          go_wp2_with fail
          go_roundw
          case rel => exact ⟨k + 1, by omega, by go_num, HE.out, hnx'⟩
          case measure => simp [intOf]; omega
        | true =>
          clear hb
          go_wp2_with fail
          go_ret
          exact greatV_yes hnx'
      · obtain rfl : k = l.length := by omega
        have HF := hide (show ∀ e ∈ l, e.short by have := HT.out; rwa [List.take_length] at this)
        clear HT
        go_wp2_with fail
        go_ret
        exact ⟨_, rfl, fun _ => ⟨HLN.out, HF.out⟩, hnx⟩
  · have hcl : decide (n < l.length) = true := by simp; omega
    have hci : decide ((n : Int) < (l.length : Int)) = true := by simp; omega
    clear hln
    go_enter Try.func24, Try.ntmps24
    go_wp2_with fail
    go_ret
    exact greatV_yes (ext_refl w)
end

section
open Go.RowKit
attribute [local go_sem] Addr.add_mid
def GivesN' (n : Int) (w : World) (e : Ending) (w' : World) : Prop := e = .returned (.int .i64 n) ∧ w = w'

/-! ### A part of a sync -/
structure Pt where
  room : ByteArray
  member : Int
  anew : Bool
  timeline : List Ev
  limited : Bool
  back : Int
  state : List Ev
  gone : List Int
def ptCells (p : Pt) (vt vs vg vr vy vn : Value) : List Value := [.string p.room, .int .i64 p.member, .bool p.anew, vt, .bool p.limited, .int .i64 p.back, vs, vg, vr, vy, vn]
def PtR (w : World) (S : Nat → Prop) (cs : List Value) (p : Pt) : Prop := ∃ vt vs vg vr vy vn, cs = ptCells p vt vs vg vr vy vn ∧ EvsR w S vt p.timeline ∧ EvsR w S vs p.state ∧ Slc w Any vg 1 p.gone.length (ivs p.gone) ∧ vr.oneCell' = true ∧ vy.oneCell' = true ∧ vn.oneCell' = true
theorem PtR.ext {w w' : World} {S : Nat → Prop} {cs : List Value} {p : Pt} (h : PtR w S cs p) (k : Below w.heap.size w w') : PtR w' S cs p := by
  obtain ⟨vt, vs, vg, vr, vy, vn, rfl, h1, h2, h3, h4⟩ := h
  exact ⟨vt, vs, vg, vr, vy, vn, rfl, h1.ext k, h2.ext k, h3.ext k, h4⟩

set_option maxRecDepth 100000 in
set_option maxHeartbeats 1000000 in
theorem RIds_any {S : Nat → Prop} {cs : List Value} {V : Vw} {w : World} (hv : VwR w S cs V) (hV : V.events.length ≤ 1048576) :
    Calls Try.prog 16 #[.agg cs.toArray] w (fun e w' => ∃ v', e = .returned v' ∧ w'.ownsRow w.heap.size 3 1 v' V.events.length (ivs (ids V.events)) ∧ Below w.heap.size w w') := by
  obtain ⟨A, c, A2, c2, A3, c3, rfl, h1, _, _⟩ := hv.form
  obtain ⟨cs, hcs⟩ : ∃ cs, cs = vwCells V (.slice A V.events.length c) (.slice A2 V.gaps.length c2) (.slice A3 V.state.length c3) := ⟨_, rfl⟩
  rw [← hcs]
  have s2 : cs[2]? = some (.slice A V.events.length c) := by rw [hcs]; rfl
  have hbW : Below w.heap.size w (w.alloc (.cells cs.toArray 25)) := ext_alloc (ext_refl w) _
  have HI := hide (R8Ids_any (h1.ext hbW) (by omega))
  clear hcs hv
  go_enter Try.func16, Try.ntmps16
  go_wp2_with fail
  refine HI.out.mono ?_
  rintro x w1 ⟨v1, rfl, hown1, hb1⟩
  have HO := hide (own_more hown1 hbW.size)
  have hb0 := hbW.trans (hb1.mono hbW.size)
  go_wp2_with fail
  go_ret
  exact ⟨_, rfl, HO.out, hb0⟩

set_option maxRecDepth 100000 in
set_option maxHeartbeats 1000000 in
theorem VIds_any {S : Nat → Prop} {cs : List Value} {V : Vw} {w : World} (hv : VwR w S cs V) (hV : V.events.length ≤ 1048576) :
    Calls Try.prog 15 #[.agg cs.toArray] w (fun e w' => ∃ v', e = .returned v' ∧ w'.ownsRow w.heap.size 3 1 v' V.events.length (ivs (ids V.events)) ∧ Below w.heap.size w w') := by
  obtain ⟨A, c, A2, c2, A3, c3, rfl, h1, _, _⟩ := hv.form
  obtain ⟨cs, hcs⟩ : ∃ cs, cs = vwCells V (.slice A V.events.length c) (.slice A2 V.gaps.length c2) (.slice A3 V.state.length c3) := ⟨_, rfl⟩
  rw [← hcs]
  have s2 : cs[2]? = some (.slice A V.events.length c) := by rw [hcs]; rfl
  have e2 := box_at (heap_alloc_new w (.cells cs.toArray 25)) s2
  have hbW : Below w.heap.size w (w.alloc (.cells cs.toArray 25)) := ext_alloc (ext_refl w) _
  have hz0 : (w.alloc (.cells cs.toArray 25)).heap.size = w.heap.size + 1 := by simp
  obtain ⟨A0, c0, css, hA0, _, _, _, hr0, ht⟩ := h1.form
  injection hA0 with hA1 _ hA2
  subst hA1 hA2
  clear hcs hv h1
  go_enter Try.func15, Try.ntmps15
  go_wp2_with (first | (at_make; go_must (refine wpList_make rfl _ _ rfl elemI (w.heap.size + 1) .i64 .i64 _ _ 0 V.events.length rfl rfl rfl rfl (Nat.zero_le _) (by omega) (by unfold maxLen; omega) (by simp) ?_)))
  rintro g w1 hgw hown hgrow hsz
  have hb1 : Below (w.alloc (.cells cs.toArray 25)).heap.size (w.alloc (.cells cs.toArray 25)) w1 := (Below.refl _ _).grown hgrow (Nat.le_refl _) (by simp)
  generalize hW : w.alloc (.cells cs.toArray 25) = W at *
  have hz1 := hb1.size
  have HZ := hide hz0
  have HE2 := hide e2
  have HSZ := hide hsz; have HGW := hide hgw
  clear hW hgrow hz0 hsz hgw
  have e2' : w1.cell? ⟨w.heap.size, 2, none⟩ = some (.slice A V.events.length c) := by rw [hb1.cell (p := ⟨w.heap.size, 2, none⟩) (by have := HZ.out; show w.heap.size < _; omega)]; exact e2
  clear e2
  go_wp2_with fail
  go_loopw [3, 12] (fun u i wr => ∃ k : Nat, k ≤ V.events.length ∧ i = .int .i64 (k : Int) ∧ wr.ownsRow (w.heap.size + 1) 3 1 u k (ivs (ids (V.events.take k))) ∧ Below W.heap.size W wr) (fun _ i _ => V.events.length - (intOf i).toNat)
  case atStart => exact ⟨0, Nat.zero_le _, rfl, by simpa [ivs, ids, madeCells] using hown, hb1⟩
  case round =>
    clear e2' hown hb1
    obtain ⟨k, hk, rfl, hown, hnx⟩ := hrel
    have hnw := hbW.trans (hnx.mono hbW.size)
    by_cases hlt : k < V.events.length
    · obtain ⟨b, o, ck, rfl, hb, he, _, hc⟩ := evs_at (hr0.ext hnw) (ht.imp fun _ _ h => h.ext hnw) k hlt
      have hcell := hc 0 _ he.some0
      rw [Nat.add_zero] at hcell
      have e2' : wr.cell? ⟨w.heap.size, 2, none⟩ = some (.slice (some ⟨b, o, none⟩) V.events.length c) := by rw [hnx.cell (p := ⟨w.heap.size, 2, none⟩) (by have := HZ.out; show w.heap.size < _; omega)]; exact HE2.out
      clear hc he
      have HS := hide (show ivs (ids (V.events.take k)) ++ [.int .i64 V.events[k].id] = ivs (ids (V.events.take (k + 1))) by rw [List.take_succ_eq_append_getElem hlt]; simp only [ivs, ids, List.map_append, List.map_cons, List.map_nil])
      have hbs : w.heap.size + 1 ≤ wr.heap.size := by have := HZ.out; have := hnx.size; omega
      go_wp2_with (first | (at_builtin; go_must (refine wpList_append_new rfl _ _ rfl elemI (w.heap.size + 1) _ _ _ rfl hown 1 _ rfl rfl (by simp [Value.oneCell']) (by decide) (by unfold maxLen; omega) (by omega) hbs ?_)))
      intro v3 w3 hown3 hgrow3
      have hb3 := below_of_own hnx hown hgrow3 hnx.size (by have := HZ.out; omega)
      clear hown hgrow3
      go_wp2_with fail
      go_roundw
      case rel => exact ⟨k + 1, by omega, by go_num, by rw [← HS.out]; exact hown3, hb3⟩
      case measure => simp [intOf]; omega
    · obtain rfl : k = V.events.length := by omega
      rw [List.take_length] at hown
      have HO := hide (own_more hown (show w.heap.size ≤ _ by omega))
      go_wp2_with fail
      go_ret
      exact ⟨_, rfl, HO.out, hnw⟩

set_option maxRecDepth 100000 in
set_option maxHeartbeats 1000000 in
theorem VWhole_any {S : Nat → Prop} {cs : List Value} {V : Vw} {w : World} (hv : VwR w S cs V) :
    Calls Try.prog 12 #[.agg cs.toArray] w (Says (decide (V.gaps = [])) w) := by
  obtain ⟨A, c, A2, c2, A3, c3, rfl, _⟩ := hv.form
  obtain ⟨cs, hcs⟩ : ∃ cs, cs = vwCells V (.slice A V.events.length c) (.slice A2 V.gaps.length c2) (.slice A3 V.state.length c3) := ⟨_, rfl⟩
  rw [← hcs]
  have s3 : cs[3]? = some (.slice A2 V.gaps.length c2) := by rw [hcs]; rfl
  have HD := hide (show decide (V.gaps = []) = ((V.gaps.length : Int) == 0) by cases V.gaps <;> simp; omega)
  clear hcs hv
  go_enter Try.func12, Try.ntmps12
  go_wp2_with fail
  go_ret
  exact ⟨by rw [HD.out]; rfl, ext_alloc (ext_refl w) _⟩

set_option maxRecDepth 100000 in
set_option maxHeartbeats 1000000 in
theorem RWhole_any {S : Nat → Prop} {cs : List Value} {V : Vw} {w : World} (hv : VwR w S cs V) :
    Calls Try.prog 13 #[.agg cs.toArray] w (Says (decide (V.gaps = [])) w) := by
  obtain ⟨A, c, A2, c2, A3, c3, rfl, _⟩ := hv.form
  obtain ⟨cs, hcs⟩ : ∃ cs, cs = vwCells V (.slice A V.events.length c) (.slice A2 V.gaps.length c2) (.slice A3 V.state.length c3) := ⟨_, rfl⟩
  rw [← hcs]
  have s3 : cs[3]? = some (.slice A2 V.gaps.length c2) := by rw [hcs]; rfl
  have HD := hide (show decide (V.gaps = []) = ((V.gaps.length : Int) == 0) by cases V.gaps <;> simp; omega)
  clear hcs hv
  go_enter Try.func13, Try.ntmps13
  go_wp2_with fail
  go_ret
  exact ⟨by rw [HD.out]; rfl, ext_alloc (ext_refl w) _⟩

def clipI (n lo hi : Int) : Int := if n < lo then lo else if lo > hi then lo else if n > hi then hi else n
set_option maxRecDepth 100000 in
set_option maxHeartbeats 1000000 in
theorem Clip_in {k m : Nat} {w : World} (h : k ≤ m) : Calls Try.prog 45 #[.int .i64 (k : Int), .int .i64 0, .int .i64 (m : Int)] w (GivesN' (k : Int) w) := by
  have h1 : (k : Int) ≤ (m : Int) := by omega
  have h2 : (0 : Int) ≤ (k : Int) := by omega
  have h3 : (0 : Int) ≤ (m : Int) := by omega
  go_enter Try.func45, Try.ntmps45
  go_wp2_with fail
  all_goals
    go_ret
    exact ⟨rfl, rfl⟩

/-- what R.Great does not complain about -/
def Vw.small (V : Vw) (n : Nat) : Prop := V.events.length ≤ n ∧ (∀ e ∈ V.events, e.short) ∧ V.state.length ≤ n ∧ (∀ e ∈ V.state, e.short) ∧ V.gaps.length ≤ n ∧ V.room.size ≤ 200
def Pt.small (p : Pt) (n : Nat) : Prop := p.timeline.length ≤ n ∧ (∀ e ∈ p.timeline, e.short) ∧ p.state.length ≤ n ∧ (∀ e ∈ p.state, e.short) ∧ p.gone.length ≤ 40 ∧ p.room.size ≤ 200
def SaysIf (p : Prop) (w : World) (x : Ending) (w' : World) : Prop := ∃ b, x = .returned (.bool b) ∧ (b = false → p) ∧ Below w.heap.size w w'
theorem saysIf_yes {p : Prop} {w w' : World} (hb : Below w.heap.size w w') : SaysIf p w (.returned (.bool true)) w' := ⟨true, rfl, nofun, hb⟩

set_option maxRecDepth 100000 in
set_option maxHeartbeats 1000000 in
theorem VGreat_any {S : Nat → Prop} {cs : List Value} {V : Vw} {n : Nat} {w : World} (hv : VwR w S cs V) (hn : n ≤ 1000000) :
    Calls Try.prog 9 #[.agg cs.toArray, .int .i64 (n : Int)] w (SaysIf (V.small n) w) := by
  obtain ⟨A, c, A2, c2, A3, c3, rfl, h1, _, h3⟩ := hv.form
  obtain ⟨cs, hcs⟩ : ∃ cs, cs = vwCells V (.slice A V.events.length c) (.slice A2 V.gaps.length c2) (.slice A3 V.state.length c3) := ⟨_, rfl⟩
  rw [← hcs]
  have s0 : cs[0]? = some (.string V.room) := by rw [hcs]; rfl
  have s2 : cs[2]? = some (.slice A V.events.length c) := by rw [hcs]; rfl
  have s3 : cs[3]? = some (.slice A2 V.gaps.length c2) := by rw [hcs]; rfl
  have s4 : cs[4]? = some (.slice A3 V.state.length c3) := by rw [hcs]; rfl
  have B0 := heap_alloc_new w (.cells cs.toArray 25)
  have hbW : Below w.heap.size w (w.alloc (.cells cs.toArray 25)) := ext_alloc (ext_refl w) _
  have H1 := hide h1; have H3 := hide h3
  clear hcs hv h1 h3
  go_enter Try.func9, Try.ntmps9
  go_wp2_with fail
  refine (R8Great_any (H1.out.ext hbW) hn).mono ?_
  rintro x w1 ⟨b1, rfl, hk1, hb1⟩
  have hb0 := hbW.trans (hb1.mono hbW.size)
  have B1 := box_below B0 hb1
  cases b1 with
  | true =>
    go_wp2_with fail
    go_ret
    exact saysIf_yes hb0
  | false =>
    have HK1 := hide (hk1 rfl)
    have q4 := box_at B1 s4
    have q3 := box_at B1 s3
    have q0 := box_at B1 s0
    clear hk1 hb1
    go_wp2_with fail
    refine (R8Great_any (H3.out.ext hb0) hn).mono ?_
    rintro x w2 ⟨b2, rfl, hk2, hb2⟩
    have hb3 := hb0.trans (hb2.mono hb0.size)
    have B2 := box_below B1 hb2
    cases b2 with
    | true =>
      go_wp2_with fail
      go_ret
      exact saysIf_yes hb3
    | false =>
      have HK2 := hide (hk2 rfl)
      have r3 := box_at B2 s3
      have r0 := box_at B2 s0
      clear hk2 hb2 q4 q3 q0
      go_wp2_with fail
      all_goals
        go_ret
        refine ⟨_, rfl, fun hb => ?_, hb3⟩
        first
          | (simp at hb; done)
          | (refine ⟨HK1.out.1, HK1.out.2, HK2.out.1, HK2.out.2, ?_, ?_⟩ <;> (simp at hb; omega))

set_option maxRecDepth 100000 in
set_option maxHeartbeats 1000000 in
theorem VLarge_any {S : Nat → Prop} {cs : List Value} {p : Pt} {n : Nat} {w : World} (hv : PtR w S cs p) (hn : n ≤ 1000000) :
    Calls Try.prog 21 #[.agg cs.toArray, .int .i64 (n : Int)] w (SaysIf (p.small n) w) := by
  obtain ⟨vt, vs, vg, vr, vy, vn, rfl, h1, h3, h5, _⟩ := hv
  obtain ⟨A, c, _, rfl, _⟩ := h1.form
  obtain ⟨A3, c3, _, rfl, _⟩ := h3.form
  obtain ⟨A5, c5, rfl, _⟩ := h5.form
  obtain ⟨cs, hcs⟩ : ∃ cs, cs = ptCells p (.slice A p.timeline.length c) (.slice A3 p.state.length c3) (.slice A5 p.gone.length c5) vr vy vn := ⟨_, rfl⟩
  rw [← hcs]
  have s0 : cs[0]? = some (.string p.room) := by rw [hcs]; rfl
  have s3 : cs[3]? = some (.slice A p.timeline.length c) := by rw [hcs]; rfl
  have s6 : cs[6]? = some (.slice A3 p.state.length c3) := by rw [hcs]; rfl
  have s7 : cs[7]? = some (.slice A5 p.gone.length c5) := by rw [hcs]; rfl
  have B0 := heap_alloc_new w (.cells cs.toArray 39)
  have hbW : Below w.heap.size w (w.alloc (.cells cs.toArray 39)) := ext_alloc (ext_refl w) _
  have H1 := hide h1; have H3 := hide h3
  clear hcs h1 h3 h5
  go_enter Try.func21, Try.ntmps21
  go_wp2_with fail
  refine (R8Great_any (H1.out.ext hbW) hn).mono ?_
  rintro x w1 ⟨b1, rfl, hk1, hb1⟩
  have hb0 := hbW.trans (hb1.mono hbW.size)
  have B1 := box_below B0 hb1
  cases b1 with
  | true =>
    go_wp2_with fail
    go_ret
    exact saysIf_yes hb0
  | false =>
    have HK1 := hide (hk1 rfl)
    have q6 := box_at B1 s6
    have q7 := box_at B1 s7
    have q0 := box_at B1 s0
    clear hk1 hb1
    go_wp2_with fail
    refine (R8Great_any (H3.out.ext hb0) hn).mono ?_
    rintro x w2 ⟨b2, rfl, hk2, hb2⟩
    have hb3 := hb0.trans (hb2.mono hb0.size)
    have B2 := box_below B1 hb2
    cases b2 with
    | true =>
      go_wp2_with fail
      go_ret
      exact saysIf_yes hb3
    | false =>
      have HK2 := hide (hk2 rfl)
      have r7 := box_at B2 s7
      have r0 := box_at B2 s0
      clear hk2 hb2 q6 q7 q0
      go_wp2_with fail
      all_goals
        go_ret
        refine ⟨_, rfl, fun hb => ?_, hb3⟩
        first
          | (simp at hb; done)
          | (refine ⟨HK1.out.1, HK1.out.2, HK2.out.1, HK2.out.2, ?_, ?_⟩ <;> (simp at hb; omega))
end
end Go.Proofs.Ytbehflldghhopaa

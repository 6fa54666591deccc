/-
  StoreFinds: the walk.
-/
import Derived.Test.YtmlnmcoophnlaaaGreatStW
import Derived.Test.YtmlnmcoophnlaaaGreatLift
set_option linter.unusedVariables false
set_option linter.unusedSimpArgs false
namespace Go.Proofs.YtmlnmcoophnlaaaGreat
open Go.RowKit
attribute [local go_sem] Addr.add_mid
theorem zero_fit : Ev.zero.fit := ⟨Nat.zero_le _, Nat.zero_le _, Nat.zero_le _, Nat.zero_le _, Nat.zero_le _, Nat.zero_le _⟩
theorem getE_mem {l : List Ev} {x : Int} {e : Ev} (h : getE l x = some e) : e ∈ l := by
  induction l with
  | nil => cases h
  | cons y l ih =>
    unfold getE at h
    split at h
    · injection h with h; rw [h]; simp
    · exact List.mem_cons_of_mem _ (ih h)
theorem getD_fit {l : List Ev} (hg : ∀ e ∈ l, e.fit) (x : Int) : ((getE l x).getD Ev.zero).fit := by
  cases h : getE l x with
  | none => exact zero_fit
  | some e => exact hg e (getE_mem h)
theorem createD_fit {l : List Ev} (hg : ∀ e ∈ l, e.fit) : ((createE l).getD Ev.zero).fit := by
  cases h : createE l with
  | none => exact zero_fit
  | some e => exact hg e (List.mem_of_find?_eq_some h)
theorem of_fit {l : List Ev} (hg : ∀ e ∈ l, e.fit) (ids : List Int) : ∀ e ∈ ofE l ids, e.fit := fun e he => by
  unfold ofE at he
  obtain ⟨x, _, hx⟩ := List.mem_filterMap.1 he
  exact hg e (getE_mem hx)
theorem of_len (l : List Ev) (ids : List Int) : (ofE l ids).length ≤ ids.length := List.length_filterMap_le _ _
theorem same_true {w : World} {v u : Value} {l : List Ev} {S S2 : Nat → Prop} (hr : EvsR w S v l) (hr2 : EvsR w S2 u l) (hl : l.length ≤ 1000000) (hg : ∀ e ∈ l, e.fit) : Calls Tryz.prog 20 #[v, u] w (Says true w) := by
  have h := R8Same_any hr hr2 hl hl hg hg
  have e : decide (l = l) = true := decide_eq_true rfl
  rw [e] at h
  exact h
theorem one_true {w : World} {cs ds : List Value} {e : Ev} {S S2 : Nat → Prop} (hr : EvR w S cs e) (hr2 : EvR w S2 ds e) (hf : e.fit) : Calls Tryz.prog 17 #[.agg cs.toArray, .agg ds.toArray] w (Says true w) := by
  have h := R7Same_any hr hr2 hf hf
  have e : decide (e = e) = true := decide_eq_true rfl
  rw [e] at h
  exact h
set_option maxRecDepth 100000 in
set_option maxHeartbeats 8000000 in
theorem finds_any {v v2 : Value} {l : List Ev} {ids : List Int} {w : World} (hr : EvsR w Any v l) (ho : ∀ e ∈ l, e.ok) (hs : Slc w Any v2 1 ids.length (ivs ids)) : Calls Tryz.prog 4 #[v, v2] w (Says true w) := by
  obtain ⟨A2, c2, rfl, _, _, _, hr2, _⟩ := hs.form
  have CG : Calls Tryz.prog 10 #[v, .int .i64 30] w (GreatV l 30 w) := R8Great_any (n := 30) hr (by decide)
  have HO := hide ho
  have HR := hide hr
  obtain ⟨A, c, css, rfl, _⟩ := hr.form
  clear hr ho
  go_enter Tryz.func4, Tryz.ntmps4
  go_wp2_with (go_at_call 10; refine CG.mono ?_)
  rintro x w1 ⟨b, rfl, hsh, hb1⟩
  clear CG
  cases b with
  | true =>
    go_wp2_with (go_at_call 12; refine (awake_any _).mono ?_; rintro e wl ⟨rfl, hbl⟩)
    go_ret
    exact ⟨rfl, ext_trans hb1 hbl⟩
  | false =>
    obtain ⟨hl30, hshort⟩ := hsh rfl
    have HG := hide (fun e he => (hshort e he).good (HO.out e he))
    have HF := hide (fun e he => (HG.out e he).fitE)
    clear hsh hshort
    by_cases hids : ids.length ≤ 30
    · have t30 : decide ((30 : Int) < (ids.length : Int)) = false := decide_eq_false (by omega)
      go_wp2_with fail
      clear t30
      go_loopw [5] (fun i wr => ∃ k : Nat, k ≤ ids.length ∧ i = .int .i64 (k : Int) ∧ Below w.heap.size w wr) (fun i _ => ids.length - (intOf i).toNat)
      case atStart => exact ⟨0, Nat.zero_le _, rfl, hb1⟩
      case round =>
      clear hb1
      obtain ⟨k, hk, rfl, N⟩ := hrel
      by_cases hlt : k < ids.length
      · obtain ⟨b, o, rfl, hbb, hc⟩ := Row.fix (hr2.ext N) (ivs_get ids k hlt)
        have hc0 := hc _ _ (ivs_get ids k hlt)
        obtain ⟨y, hy⟩ : ∃ y, y = ids[k] := ⟨_, rfl⟩
        rw [← hy] at hc0
        clear hc hy
        have G1 := SGet_any (id := y) (HR.out.ext N) (by omega)
        have HFY := hide (getD_fit HF.out y)
        have G2 := hide (fun (W : World) (h : Below w.heap.size w W) => R8Get_any (id := y) (HR.out.ext h) (show l.length ≤ 1000000 by omega))
        obtain ⟨q, hq⟩ : ∃ q, q = (getE l y).isSome := ⟨_, rfl⟩
        obtain ⟨d, hd⟩ : ∃ d, d = (getE l y).getD Ev.zero := ⟨_, rfl⟩
        unfold FoundV at G1 G2
        rw [← hq, ← hd] at G1 G2
        rw [← hd] at HFY
        clear hq hd
        have hcell := hide (fun (W : World) (h : Below wr.heap.size wr W) => (h.cell (p := ⟨b, o + k, none⟩) hbb).trans hc0)
        go_upto_region 7 with (first
          | (go_at_call 15; refine G1.mono ?_; rintro x w2 ⟨cg, rfl, RG, hb2⟩; have HL1 := hide RG.length; have HO1 := hide RG.one)
          | refine wpList_newS rfl rfl strcE rfl (.tmp 6) (.tmp 35) rfl rfl rfl cg.toArray rfl (by simpa using HL1.out) (by simpa using HO1.out) ?_)
        have k3 := ext_alloc (ext_refl w2) (.cells cg.toArray 35)
        have B3 := heap_alloc_new w2 (.cells cg.toArray 35)
        have R3 := RG.ext k3
        have N3 := ext_trans (ext_trans N hb2) k3
        have z3 := hcell.out _ (ext_trans hb2 k3)
        clear k3 RG hb2 G1 hc0 hcell
        generalize w2.alloc (.cells cg.toArray 35) = w3 at B3 R3 N3 z3 ⊢
        generalize w2.heap.size = g3 at B3 ⊢
        have G2 := G2.out _ N3
        go_upto_region 8 with (first
          | (go_at_call 16; refine G2.mono ?_; rintro x w4 ⟨ch, rfl, RH, hb4⟩; have HL2 := hide RH.length; have HO2 := hide RH.one)
          | refine wpList_newS rfl rfl strcE rfl (.tmp 8) (.tmp 44) rfl rfl rfl ch.toArray rfl (by simpa using HL2.out) (by simpa using HO2.out) ?_)
        have k5 := ext_alloc (ext_refl w4) (.cells ch.toArray 35)
        have B5 := hide (heap_alloc_new w4 (.cells ch.toArray 35))
        have B6 := hide (box_below (box_below B3 hb4) k5)
        have C7 := one_true (R3.ext (ext_trans hb4 k5)) (RH.ext k5) HFY.out
        have N5 := ext_trans (ext_trans N3 hb4) k5
        clear k5 RH hb4 G2 R3 N3 B3 z3 N
        generalize w4.alloc (.cells ch.toArray 35) = w5 at B5 B6 C7 N5 ⊢
        generalize w4.heap.size = g5 at B5 ⊢
        cases q
        all_goals
          go_wp2_with (first
            | refine wpList_loadS rfl (.tmp 6) rfl strcE ⟨g3, 0, none⟩ rfl cg HL1.out (box_all B6.out) ?_
            | refine wpList_loadS rfl (.tmp 8) rfl strcE ⟨g5, 0, none⟩ rfl ch HL2.out (box_all B5.out) ?_
            | (go_at_call 17; refine C7.mono ?_; rintro x w6 ⟨rfl, hb6⟩))
          have N6 := ext_trans N5 hb6
          go_roundw
          case rel => exact ⟨k + 1, by omega, by go_num, N6⟩
          case measure => (simp [intOf]; try omega)
      · obtain rfl : k = ids.length := by omega
        have G1 := SCreate_any (HR.out.ext N) (by omega)
        have HFY := hide (createD_fit HF.out)
        have G2 := hide (fun (W : World) (h : Below w.heap.size w W) => R8Create_any (HR.out.ext h) (show l.length ≤ 1000000 by omega))
        obtain ⟨q, hq⟩ : ∃ q, q = (createE l).isSome := ⟨_, rfl⟩
        obtain ⟨d, hd⟩ : ∃ d, d = (createE l).getD Ev.zero := ⟨_, rfl⟩
        unfold FoundV at G1 G2
        rw [← hq, ← hd] at G1 G2
        rw [← hd] at HFY
        clear hq hd
        go_upto_region 11 with (first
          | (go_at_call 18; refine G1.mono ?_; rintro x w2 ⟨cg, rfl, RG, hb2⟩; have HL1 := hide RG.length; have HO1 := hide RG.one)
          | refine wpList_newS rfl rfl strcE rfl (.tmp 10) (.tmp 58) rfl rfl rfl cg.toArray rfl (by simpa using HL1.out) (by simpa using HO1.out) ?_)
        have k3 := ext_alloc (ext_refl w2) (.cells cg.toArray 35)
        have B3 := heap_alloc_new w2 (.cells cg.toArray 35)
        have R3 := RG.ext k3
        have N3 := ext_trans (ext_trans N hb2) k3
        clear k3 RG hb2 G1
        generalize w2.alloc (.cells cg.toArray 35) = w3 at B3 R3 N3 ⊢
        generalize w2.heap.size = g3 at B3 ⊢
        have G2 := G2.out _ N3
        go_upto_region 12 with (first
          | (go_at_call 19; refine G2.mono ?_; rintro x w4 ⟨ch, rfl, RH, hb4⟩; have HL2 := hide RH.length; have HO2 := hide RH.one)
          | refine wpList_newS rfl rfl strcE rfl (.tmp 12) (.tmp 63) rfl rfl rfl ch.toArray rfl (by simpa using HL2.out) (by simpa using HO2.out) ?_)
        have k5 := ext_alloc (ext_refl w4) (.cells ch.toArray 35)
        have B5 := hide (heap_alloc_new w4 (.cells ch.toArray 35))
        have B6 := hide (box_below (box_below B3 hb4) k5)
        have C7 := one_true (R3.ext (ext_trans hb4 k5)) (RH.ext k5) HFY.out
        have N5 := ext_trans (ext_trans N3 hb4) k5
        clear k5 RH hb4 G2 R3 N3 B3 N
        generalize w4.alloc (.cells ch.toArray 35) = w5 at B5 B6 C7 N5 ⊢
        generalize w4.heap.size = g5 at B5 ⊢
        have CO := hide (fun (W : World) (h : Below w.heap.size w W) => SOf_any (HR.out.ext h) (show l.length ≤ 1000000 by omega) (c2 := c2) (hr2.ext h) (show ids.length ≤ 1000000 by omega))
        have CR := hide (fun (W : World) (h : Below w.heap.size w W) => R8Of_any (HR.out.ext h) (show l.length ≤ 1000000 by omega) (c2 := c2) (hr2.ext h) (show ids.length ≤ 1000000 by omega))
        have HOF := hide (of_fit HF.out ids)
        have hol : (ofE l ids).length ≤ 1000000 := by have := of_len l ids; omega
        cases q
        all_goals
          go_wp2_with (first
            | refine wpList_loadS rfl (.tmp 10) rfl strcE ⟨g3, 0, none⟩ rfl cg HL1.out (box_all B6.out) ?_
            | refine wpList_loadS rfl (.tmp 12) rfl strcE ⟨g5, 0, none⟩ rfl ch HL2.out (box_all B5.out) ?_
            | (go_at_call 17; refine C7.mono ?_; rintro x w6 ⟨rfl, hb6⟩; have N6 := ext_trans N5 hb6)
            | (go_at_call 21; refine (CO.out _ N6).mono ?_; rintro x w7 ⟨v7, rfl, o7, hb7⟩; have N7 := ext_trans N6 hb7)
            | (go_at_call 22; refine (CR.out _ N7).mono ?_; rintro x w8 ⟨v8, rfl, o8, hb8⟩; have N8 := ext_trans N7 hb8; have CS := same_true (o7.evs.ext hb8) o8.evs hol HOF.out)
            | (go_at_call 20; refine CS.mono ?_; rintro x w9 ⟨rfl, hb9⟩; have N9 := ext_trans N8 hb9)
            | (go_at_call 12; refine (awake_any _).mono ?_; rintro e wl ⟨rfl, hbl⟩))
          go_ret
          exact ⟨rfl, ext_trans N9 hbl⟩
    · have t30 : decide ((30 : Int) < (ids.length : Int)) = true := decide_eq_true (by omega)
      go_wp2_with (go_at_call 12; refine (awake_any _).mono ?_; rintro e wl ⟨rfl, hbl⟩)
      go_ret
      exact ⟨rfl, ext_trans hb1 hbl⟩
end Go.Proofs.YtmlnmcoophnlaaaGreat

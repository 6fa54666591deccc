/-
  Membership: reference Has; slices.Index, slices.Contains, num.Has at numbers; view.has; Ids of events.
  view.inserted.
  view.fresh and the reference's fresh, met, behind.
  The reference's fresh, met, behind.
  The reference's met, behind; ahead of both; num.Clip.
-/
import Derived.Test.YtbehflldghhopaaSamesB
import Derived.Test.YtbehflldghhopaaElemT
import Derived.Test.YtbehflldghhopaaAggs
import Derived.Maps.AppendAt
import Derived.WalkLawsBesides
set_option linter.unusedVariables false
set_option linter.unusedSimpArgs false
namespace Go.Proofs.Ytbehflldghhopaa
section
open Go.RowKit
attribute [local go_sem] Addr.add_mid

theorem notin_step {l : List Int} {k : Nat} {n : Int} (h : n ∉ l.take k) (hk : k < l.length) (he : l[k] ≠ n) : n ∉ l.take (k + 1) := by
  rw [List.take_succ_eq_append_getElem hk, List.mem_append, List.mem_singleton]
  rintro (h1 | h1)
  · exact h h1
  · exact he h1.symm
theorem in_of {l : List Int} {k : Nat} {n : Int} (hk : k < l.length) (he : l[k] = n) : n ∈ l := he ▸ List.getElem_mem hk
/-- a Bool, the world as it was -/
def Tells (b : Bool) (w : World) (e : Ending) (w' : World) : Prop := e = .returned (.bool b) ∧ w = w'
theorem tells_mk {b c : Bool} {w : World} (h : c = b) : Tells b w (.returned (.bool c)) w := by subst h; exact ⟨rfl, rfl⟩

set_option maxRecDepth 100000 in
set_option maxHeartbeats 400000 in
theorem R1Has_any {B : Nat} {A : Option Addr} {c : Nat} {l : List Int} {n : Int} {w : World} (hr : Row w B A (ivs l)) (hl : l.length ≤ 1073741824) :
    Calls Try.prog 31 #[.slice A l.length c, .int .i64 n] w (Tells (decide (n ∈ l)) w) := by
  go_enter Try.func31, Try.ntmps31
  go_wp2_with fail
  go_loop [5] (fun i => ∃ k : Nat, k ≤ l.length ∧ i = .int .i64 (k : Int) ∧ n ∉ l.take k) (fun i => l.length - (intOf i).toNat)
  case atStart => exact ⟨0, Nat.zero_le _, rfl, by simp⟩
  case round =>
    obtain ⟨k, hk, rfl, ht⟩ := hrel
    have HT := hide ht; clear ht
    by_cases hlt : k < l.length
    · obtain ⟨b, o, rfl, hb, hc⟩ := hr.fix (ivs_get l k hlt)
      have hcell := hc _ _ (ivs_get l k hlt)
      clear hc
      have HE := hide (fun h : l[k] ≠ n => notin_step HT.out hlt h)
      have HN := hide (fun h : l[k] = n => in_of hlt h)
      by_cases he : l[k] = n
      · have HN' := hide (HN.out he)
        have hb : (l[k] == n) = true := by simpa using he
        clear he HE HN
        go_wp2_with fail
        go_ret
        exact tells_mk (decide_eq_true HN'.out).symm
      · have HE' := hide (HE.out he)
        have hb : (l[k] == n) = false := by simpa using he
        clear he HE HN
        go_wp2_with fail
        go_round
        case rel => exact ⟨k + 1, by omega, by go_num, HE'.out⟩
        case measure => simp [intOf]; omega
    · obtain rfl : k = l.length := by omega
      have HF := hide (show n ∉ l by have := HT.out; rwa [List.take_length] at this)
      go_wp2_with fail
      go_ret
      exact tells_mk (decide_eq_false HF.out).symm

/-- the place of a number, or -1 -/
def At (l : List Int) (n : Int) (x : Int) : Prop := (0 ≤ x ∧ n ∈ l) ∨ (x = -1 ∧ n ∉ l)
set_option maxRecDepth 100000 in
set_option maxHeartbeats 400000 in
theorem SIndex_any {B : Nat} {A : Option Addr} {c : Nat} {l : List Int} {n : Int} {w : World} (hr : Row w B A (ivs l)) (hl : l.length ≤ 1073741824) :
    Calls Try.prog 58 #[.slice A l.length c, .int .i64 n] w (fun e w' => ∃ x, e = .returned (.int .i64 x) ∧ Hid (At l n x) ∧ w = w') := by
  go_enter Try.func58, Try.ntmps58
  go_wp2_with fail
  go_loop [8] (fun i => ∃ k : Nat, k ≤ l.length ∧ i = .int .i64 (k : Int) ∧ n ∉ l.take k) (fun i => l.length - (intOf i).toNat)
  case atStart => exact ⟨0, Nat.zero_le _, rfl, by simp⟩
  case round =>
    obtain ⟨k, hk, rfl, ht⟩ := hrel
    have HT := hide ht; clear ht
    by_cases hlt : k < l.length
    · obtain ⟨b, o, rfl, hb, hc⟩ := hr.fix (ivs_get l k hlt)
      have hcell := hc _ _ (ivs_get l k hlt)
      clear hc
      have HE := hide (fun h : l[k] ≠ n => notin_step HT.out hlt h)
      have HN := hide (fun h : l[k] = n => in_of hlt h)
      by_cases he : l[k] = n
      · have HN' := hide (HN.out he)
        have hb : (n == l[k]) = true := by simpa using he.symm
        clear he HE HN
        go_wp2_with fail
        go_ret
        exact ⟨_, rfl, .inl ⟨by omega, HN'.out⟩, rfl⟩
      · have HE' := hide (HE.out he)
        have hb : (n == l[k]) = false := by simpa using fun e => he e.symm
        clear he HE HN
        go_wp2_with fail
        go_round
        case rel => exact ⟨k + 1, by omega, by go_num, HE'.out⟩
        case measure => simp [intOf]; omega
    · obtain rfl : k = l.length := by omega
      have HF := hide (show n ∉ l by have := HT.out; rwa [List.take_length] at this)
      go_wp2_with fail
      go_ret
      exact ⟨_, rfl, .inr ⟨rfl, HF.out⟩, rfl⟩

set_option maxRecDepth 100000 in
set_option maxHeartbeats 400000 in
theorem SContains_any {B : Nat} {A : Option Addr} {c : Nat} {l : List Int} {n : Int} {w : World} (hr : Row w B A (ivs l)) (hl : l.length ≤ 1073741824) :
    Calls Try.prog 53 #[.slice A l.length c, .int .i64 n] w (Tells (decide (n ∈ l)) w) := by
  go_enter Try.func53, Try.ntmps53
  go_wp2_with fail
  refine (SIndex_any hr hl).mono ?_
  rintro e w1 ⟨x, rfl, hx, rfl⟩
  by_cases h0 : 0 ≤ x
  · have HM := hide (show n ∈ l by rcases hx.out with h | h; exact h.2; omega)
    clear hx
    go_wp2_with fail
    go_ret
    exact tells_mk (decide_eq_true HM.out).symm
  · have HM := hide (show n ∉ l by rcases hx.out with h | h; omega; exact h.2)
    have hd : decide (0 ≤ x) = false := decide_eq_false h0
    clear hx
    go_wp2_with fail
    go_ret
    exact tells_mk (decide_eq_false HM.out).symm

set_option maxRecDepth 100000 in
set_option maxHeartbeats 400000 in
theorem NHas_any {B : Nat} {A : Option Addr} {c : Nat} {l : List Int} {n : Int} {w : World} (hr : Row w B A (ivs l)) (hl : l.length ≤ 1073741824) :
    Calls Try.prog 49 #[.slice A l.length c, .int .i64 n] w (Tells (decide (n ∈ l)) w) := by
  go_enter Try.func49, Try.ntmps49
  go_wp2_with fail
  refine (SContains_any hr hl).mono ?_
  rintro e w1 ⟨rfl, rfl⟩
  go_wp2_with fail
  go_ret
  exact tells_mk rfl

/-! ### Events: the ids -/
def ids (l : List Ev) : List Int := l.map Ev.id
theorem ids_length (l : List Ev) : (ids l).length = l.length := by simp [ids]
theorem ids_get (l : List Ev) (k : Nat) (h : k < l.length) : (ids l)[k]'(by rw [ids_length]; exact h) = l[k].id := by simp [ids]

set_option maxRecDepth 100000 in
set_option maxHeartbeats 400000 in
theorem R8Ids_any {S : Nat → Prop} {v : Value} {l : List Ev} {w : World} (hr : EvsR w S v l) (hl : l.length ≤ 1073741824) :
    Calls Try.prog 29 #[v] w (fun e w' => ∃ v', e = .returned v' ∧ w'.ownsRow w.heap.size 3 1 v' l.length (ivs (ids l)) ∧ Below w.heap.size w w') := by
  obtain ⟨A, c, css, rfl, _, _, _, hr, ht⟩ := hr.form
  go_enter Try.func29, Try.ntmps29
  go_wp2_with fail
  go_loopw [3, 4] (fun u i wr => ∃ k : Nat, k ≤ l.length ∧ i = .int .i64 (k : Int) ∧ wr.ownsRow w.heap.size 3 1 u k (ivs (ids (l.take k))) ∧ Below w.heap.size w wr) (fun _ i _ => l.length - (intOf i).toNat)
  case atStart => exact ⟨0, Nat.zero_le _, rfl, World.ownsRow_nil _ _ _ _, ext_refl w⟩
  case round =>
    obtain ⟨k, hk, rfl, hown, hnx⟩ := hrel
    by_cases hlt : k < l.length
    · obtain ⟨b, o, cs, rfl, hb, he, _, hc⟩ := evs_at (hr.ext hnx) (ht.imp fun _ _ h => h.ext hnx) k hlt
      have hcell := hc 0 _ he.some0
      rw [Nat.add_zero] at hcell
      clear hc he
      have HS := hide (show ivs (ids (l.take k)) ++ [.int .i64 l[k].id] = ivs (ids (l.take (k + 1))) by rw [List.take_succ_eq_append_getElem hlt]; simp only [ivs, ids, List.map_append, List.map_cons, List.map_nil])
      go_wp2_with (first | (at_builtin; go_must (refine wpList_append_new rfl _ _ rfl elemI w.heap.size _ _ _ rfl hown 1 _ rfl rfl (by simp [Value.oneCell']) (by decide) (by unfold maxLen; omega) (by omega) hnx.size ?_)))
      intro v3 w3 hown3 hgrow3
      have hb3 := below_of_own hnx hown hgrow3 hnx.size (Nat.le_refl _)
      clear hown hgrow3
      go_wp2_with fail
      go_roundw
      case rel => exact ⟨k + 1, by omega, by go_num, by rw [← HS.out]; exact hown3, hb3⟩
      case measure => simp [intOf]; omega
    · obtain rfl : k = l.length := by omega
      rw [List.take_length] at hown
      go_wp2_with fail
      go_ret
      exact ⟨_, rfl, hown, hnx⟩

set_option maxRecDepth 100000 in
set_option maxHeartbeats 400000 in
theorem VHas_any {S : Nat → Prop} {v : Value} {l : List Ev} {n : Int} {w : World} (hr : EvsR w S v l) (hl : l.length ≤ 1073741824) :
    Calls Try.prog 44 #[v, .int .i64 n] w (Tells (decide (n ∈ ids l)) w) := by
  obtain ⟨A, c, css, rfl, _, _, _, hr, ht⟩ := hr.form
  go_enter Try.func44, Try.ntmps44
  go_wp2_with fail
  go_loop [8] (fun i => ∃ k : Nat, k ≤ l.length ∧ i = .int .i64 (k : Int) ∧ n ∉ (ids l).take k) (fun i => l.length - (intOf i).toNat)
  case atStart => exact ⟨0, Nat.zero_le _, rfl, by simp⟩
  case round =>
    obtain ⟨k, hk, rfl, hq⟩ := hrel
    have HT := hide hq; clear hq
    by_cases hlt : k < l.length
    · obtain ⟨b, o, cs, rfl, hb, he, _, hc⟩ := evs_at hr ht k hlt
      have hcell := hc 0 _ he.some0
      rw [Nat.add_zero] at hcell
      have hlt2 : k < (ids l).length := by rw [ids_length]; exact hlt
      have HE := hide (fun h : l[k].id ≠ n => notin_step (n := n) HT.out hlt2 (by rw [ids_get l k hlt]; exact h))
      have HN := hide (fun h : l[k].id = n => in_of (n := n) hlt2 (by rw [ids_get l k hlt]; exact h))
      clear hc he
      by_cases he : l[k].id = n
      · have HN' := hide (HN.out he)
        have hb : (l[k].id == n) = true := by simpa using he
        clear he HE HN hlt2
        go_wp2_with fail
        go_ret
        exact tells_mk (decide_eq_true HN'.out).symm
      · have HE' := hide (HE.out he)
        have hb : (l[k].id == n) = false := by simpa using he
        clear he HE HN hlt2
        go_wp2_with fail
        go_round
        case rel => exact ⟨k + 1, by omega, by go_num, HE'.out⟩
        case measure => simp [intOf]; omega
    · obtain rfl : k = l.length := by omega
      have HF := hide (show n ∉ ids l by have := HT.out; rwa [← ids_length, List.take_length] at this)
      go_wp2_with fail
      go_ret
      exact tells_mk (decide_eq_false HF.out).symm
end

section
open Go.RowKit
attribute [local go_sem] Addr.add_mid

theorem elemE : Elem Try.prog 22 68 (.agg evZero) 29 376 := ⟨Try.underlying22, by kernel_rfl, rfl, by decide⟩
/-- a slice of events in a block of its own -/
def OwnE (base : Nat) (w : World) (S : Nat → Prop) (v : Value) (l : List Ev) : Prop := ∃ css, w.ownsRow base 68 29 v l.length css.flatten ∧ Told (EvR w S) css l
theorem OwnE.evs {base : Nat} {w : World} {S : Nat → Prop} {v : Value} {l : List Ev} (h : OwnE base w S v l) : EvsR w S v l := by
  obtain ⟨css, h1, h2⟩ := h
  exact ⟨css, (Slc.own h1 (by decide)).any, h2⟩
theorem OwnE.below {base : Nat} {w w' : World} {S : Nat → Prop} {v : Value} {l : List Ev} (h : OwnE base w S v l) (hb : Below w.heap.size w w') : OwnE base w' S v l := by
  obtain ⟨css, h1, h2⟩ := h
  exact ⟨css, own_below h1 hb, h2.imp fun _ _ h => h.ext hb⟩
def GivesO (S : Nat → Prop) (l : List Ev) (w : World) (e : Ending) (w' : World) : Prop := ∃ v', e = .returned v' ∧ OwnE w.heap.size w' S v' l ∧ Below w.heap.size w w'
theorem told_one {w : World} {S : Nat → Prop} : ∀ {css : List (List Value)} {l : List Ev}, Told (EvR w S) css l → ∀ u ∈ css.flatten, u.oneCell' = true
  | [], _, _, u, hu => by simp at hu
  | c :: css, e :: l, h, u, hu => by
    simp only [List.flatten_cons, List.mem_append] at hu
    rcases hu with hu | hu
    · exact h.1.one u hu
    · exact told_one h.2 u hu
  | _ :: _, [], h, _, _ => h.elim
theorem told_size {w : World} {S : Nat → Prop} {css : List (List Value)} {l : List Ev} (h : Told (EvR w S) css l) : ∀ c ∈ css, c.length = 29 := Told.size (fun c x (h : EvR w S c x) => h.length) h
theorem told_len {w : World} {S : Nat → Prop} {css : List (List Value)} {l : List Ev} (h : Told (EvR w S) css l) : css.flatten.length = l.length * 29 := by rw [flat_length (told_size h), h.length]
theorem patch_three (x a b c : List Value) (h : x.length = a.length + b.length + c.length) : patch (patch (patch x 0 a) a.length b) (a.length + b.length) c = a ++ (b ++ c) := by
  unfold patch
  apply List.ext_getElem?
  intro i
  simp only [List.getElem?_append, List.getElem?_take, List.getElem?_drop, List.length_take, List.length_append, List.length_drop]
  grind

set_option maxRecDepth 100000 in
set_option maxHeartbeats 1000000 in
theorem inserted_any {S : Nat → Prop} {v v2 : Value} {l m : List Ev} {k : Nat} {w : World} (hr : EvsR w S v l) (hr2 : EvsR w S v2 m) (hk : k ≤ l.length) (hl : l.length ≤ 1073741824) (hm : m.length ≤ 1073741824) :
    Calls Try.prog 38 #[v, .int .i64 (k : Int), v2] w (GivesO S (l.take k ++ (m ++ l.drop k)) w) := by
  obtain ⟨A, c, css, rfl, h1, h2, h3, hr, ht⟩ := hr.form
  obtain ⟨A2, c2, css2, rfl, h1', h2', h3', hr2, ht2⟩ := hr2.form
  have hrun1 := run_head elemE A l.length c k (by omega)
  have hrun2 := run_cut elemE A l.length c k hk
  go_enter Try.func38, Try.ntmps38
  go_wp2_with (first | (at_make; go_must (refine wpList_make rfl _ _ rfl elemE w.heap.size .i64 .i64 _ _ (l.length + m.length) (l.length + m.length) rfl rfl (by omega) (by omega) (Nat.le_refl _) (by omega) (by unfold maxLen; omega) (Nat.le_refl _) ?_)))
  intro g w1 hgw hown hgrow hsz
  have hb1 := (Below.refl w.heap.size w).grown hgrow (Nat.le_refl _) (by simp)
  have tk := ht.take k
  have td := ht.drop k
  have ha : (css.take k).flatten.length = k * 29 := by rw [told_len tk, List.length_take, Nat.min_eq_left hk]
  have hb : css2.flatten.length = m.length * 29 := told_len ht2
  have hc : (css.drop k).flatten.length = (l.length - k) * 29 := by rw [told_len td, List.length_drop]
  have r1 := (hr.ext hb1).take (k * 29)
  rw [flat_take k (told_size ht)] at r1
  have r3 := hr.cutA (size := 29) (k := k) (c := c) (told_len ht) h1
  rw [flat_drop k (told_size ht)] at r3
  have oa := told_one tk
  have ob := told_one ht2
  have oc := told_one td
  have HP := hide (fun x : List Value => patch_three x (css.take k).flatten css2.flatten (css.drop k).flatten)
  have hmade : (madeCells evZero ((l.length + m.length) * 29)).toList.length = (l.length + m.length) * 29 := by simp [madeCells]
  obtain ⟨x, hx⟩ : ∃ x, x = (madeCells evZero ((l.length + m.length) * 29)).toList := ⟨_, rfl⟩
  rw [← hx] at hown hmade
  obtain ⟨a', hA'⟩ : ∃ y, y = (css.take k).flatten := ⟨_, rfl⟩
  obtain ⟨b', hB'⟩ : ∃ y, y = css2.flatten := ⟨_, rfl⟩
  obtain ⟨c', hC'⟩ : ∃ y, y = (css.drop k).flatten := ⟨_, rfl⟩
  have HT := hide (show Told (EvR w S) (css.take k ++ (css2 ++ css.drop k)) (l.take k ++ (m ++ l.drop k)) from tk.append (ht2.append td))
  have HF := hide (show (css.take k ++ (css2 ++ css.drop k)).flatten = a' ++ (b' ++ c') by rw [hA', hB', hC']; simp)
  rw [← hB'] at hr2
  rw [← hA'] at ha r1 oa HP
  rw [← hB'] at hb ob HP
  rw [← hC'] at hc r3 oc HP
  clear hx hA' hB' hC' tk td ht ht2 hgrow
  have HG := hide hgw; clear hgw
  go_wp2_with (refine wpList_copy rfl (.tmp 15) (.tmp 18) _ rfl elemE w.heap.size g (l.length + m.length) (l.length + m.length) _ hown 0 (some ⟨g, 0, none⟩) (l.length + m.length) (l.length + m.length) rfl _ A k c k a' rfl (by omega) ha r1 oa (by omega) (fun _ => by simp [Addr.add]) ?_)
  intro w2 hown2 hg2
  have hb2 := hb1.grown hg2 hb1.size (fun q hq => by injection hq with hq; rw [← hq, HG.out]; exact Nat.le_refl _)
  clear hown hg2 hb1 r1
  have hrc := run_cut elemE (some ⟨g, 0, none⟩) (l.length + m.length) (l.length + m.length) k (by omega)
  have D2 : 0 < m.length → cutA (some ⟨g, 0, none⟩) (l.length + m.length) k 29 = some ((⟨g, 0, none⟩ : Addr).add (k * 29)) := fun h => by rw [cutA, if_neg (by omega)]; rfl
  have r2 := hr2.ext hb2
  clear hrun1
  go_wp2_with (refine wpList_copy rfl (.tmp 23) (.tmp 24) _ rfl elemE w.heap.size g (l.length + m.length) (l.length + m.length) _ hown2 k (cutA (some ⟨g, 0, none⟩) (l.length + m.length) k 29) (l.length + m.length - k) (l.length + m.length - k) rfl _ A2 m.length c2 m.length b' rfl (by omega) hb r2 ob (by omega) D2 ?_)
  intro w3 hown3 hg3
  have hb3 := hb2.grown hg3 hb2.size (fun q hq => by injection hq with hq; rw [← hq, HG.out]; exact Nat.le_refl _)
  clear hown2 hg3 hb2 r2 hrc D2
  have hrc := run_cut elemE (some ⟨g, 0, none⟩) (l.length + m.length) (l.length + m.length) (k + m.length) (by omega)
  have D3 : 0 < l.length - k → cutA (some ⟨g, 0, none⟩) (l.length + m.length) (k + m.length) 29 = some ((⟨g, 0, none⟩ : Addr).add ((k + m.length) * 29)) := fun h => by rw [cutA, if_neg (by omega)]; rfl
  rw [show ((k + m.length : Nat) : Int) = (k : Int) + (m.length : Int) by omega] at hrc
  have r3' := r3.ext hb3
  go_wp2_with fail
  refine wp_region_still_tail 6 (by kernel_rfl) (by kernel_rfl) ?_
  simp only [List.take_succ_cons, List.take_zero, List.drop_succ_cons, List.drop_zero]
  iterate 6 still_step
  refine wpStill_nil ?_
  go_wp2_with (refine wpList_copy rfl (.tmp 29) (.tmp 32) _ rfl elemE w.heap.size g (l.length + m.length) (l.length + m.length) _ (show w3.drew.ownsRow _ _ _ _ _ _ from hown3) (k + m.length) (cutA (some ⟨g, 0, none⟩) (l.length + m.length) (k + m.length) 29) (l.length + m.length - (k + m.length)) (l.length + m.length - (k + m.length)) rfl _ (cutA A c k 29) (l.length - k) (c - k) (l.length - k) c' rfl (by omega) hc (show Row w3.drew _ _ _ from r3') oc (by omega) D3 ?_)
  intro w4 hown4 hg4
  have hb4 := (ext_drew hb3).grown hg4 hb3.size (fun q hq => by injection hq with hq; rw [← hq, HG.out]; exact Nat.le_refl _)
  rw [show k * 29 = a'.length by omega, show (k + m.length) * 29 = a'.length + b'.length by omega, HP.out x (by omega), ← HF.out] at hown4
  clear hown3 hg4 hb3 r3' hrc D3 hrun2 HP HF
  go_wp2_with fail
  go_ret
  have hlen : (l.take k ++ (m ++ l.drop k)).length = l.length + m.length := by simp; omega
  exact ⟨_, rfl, ⟨_, by rw [hlen]; exact hown4, HT.out.imp fun _ _ h => h.ext hb4⟩, hb4⟩
end

section
open Go.RowKit
attribute [local go_sem] Addr.add_mid

/-! ### Plain: the new events of a list -/
def freshL (known : List Int) : List Ev → List Ev
  | [] => []
  | e :: l => if e.id ∈ known then freshL known l else e :: freshL (known ++ [e.id]) l
def metL (known : List Int) (l : List Ev) : Bool := l.any fun e => decide (e.id ∈ known)

/-! ### A view -/
structure Vw where
  room : ByteArray
  member : Int
  events : List Ev
  gaps : List (Int × Int)
  state : List Ev
  deriving DecidableEq
def vwCells (v : Vw) (ve vg vs : Value) : List Value := [.string v.room, .int .i64 v.member, ve, vg, vs]
def VwR (w : World) (S : Nat → Prop) (cs : List Value) (v : Vw) : Prop := ∃ ve vg vs, cs = vwCells v ve vg vs ∧ EvsR w S ve v.events ∧ Slc w Any vg 2 v.gaps.length (kcs v.gaps) ∧ EvsR w S vs v.state
theorem VwR.ext {w w' : World} {S : Nat → Prop} {cs : List Value} {v : Vw} (h : VwR w S cs v) (k : Below w.heap.size w w') : VwR w' S cs v := by
  obtain ⟨ve, vg, vs, rfl, h1, h2, h3⟩ := h
  exact ⟨ve, vg, vs, rfl, h1.ext k, h2.ext k, h3.ext k⟩
theorem VwR.form {w : World} {S : Nat → Prop} {cs : List Value} {v : Vw} (h : VwR w S cs v) : ∃ A c A2 c2 A3 c3, cs = vwCells v (.slice A v.events.length c) (.slice A2 v.gaps.length c2) (.slice A3 v.state.length c3) ∧ EvsR w S (.slice A v.events.length c) v.events ∧ Slc w Any (.slice A2 v.gaps.length c2) 2 v.gaps.length (kcs v.gaps) ∧ EvsR w S (.slice A3 v.state.length c3) v.state := by
  obtain ⟨ve, vg, vs, rfl, h1, h2, h3⟩ := h
  obtain ⟨A, c, _, rfl, _⟩ := h1.form
  obtain ⟨A2, c2, rfl, _⟩ := h2.form
  obtain ⟨A3, c3, _, rfl, _⟩ := h3.form
  exact ⟨A, c, A2, c2, A3, c3, rfl, h1, h2, h3⟩
theorem vwCells_arr (v : Vw) (ve vg vs : Value) : (vwCells v ve vg vs).toArray = #[.string v.room, .int .i64 v.member, ve, vg, vs] := rfl

/-- the list so far and the rest -/
theorem freshL_cons_in {known : List Int} {e : Ev} {l : List Ev} (h : e.id ∈ known) : freshL known (e :: l) = freshL known l := by simp [freshL, h]
theorem freshL_cons_new {known : List Int} {e : Ev} {l : List Ev} (h : e.id ∉ known) : freshL known (e :: l) = e :: freshL (known ++ [e.id]) l := by simp [freshL, h]
theorem drop_cons {α : Type} {l : List α} {k : Nat} (h : k < l.length) : l.drop k = l[k] :: l.drop (k + 1) := List.drop_eq_getElem_cons h

/-- how far a loop over a list has come: out is what was taken -/
def FrRel (known : List Int) (l : List Ev) (k : Nat) (out : List Ev) : Prop := freshL known l = out ++ freshL (known ++ ids out) (l.drop k)
theorem FrRel.start (known : List Int) (l : List Ev) : FrRel known l 0 [] := by simp [FrRel, ids]
theorem FrRel.skip {known : List Int} {l : List Ev} {k : Nat} {out : List Ev} (h : FrRel known l k out) (hk : k < l.length) (hi : l[k].id ∈ known ++ ids out) : FrRel known l (k + 1) out := by
  unfold FrRel at *
  rw [h, drop_cons hk, freshL_cons_in hi]
theorem FrRel.take {known : List Int} {l : List Ev} {k : Nat} {out : List Ev} (h : FrRel known l k out) (hk : k < l.length) (hi : l[k].id ∉ known ++ ids out) : FrRel known l (k + 1) (out ++ [l[k]]) := by
  unfold FrRel at *
  rw [h, drop_cons hk, freshL_cons_new hi]
  simp [ids]
theorem FrRel.fin {known : List Int} {l : List Ev} {out : List Ev} (h : FrRel known l l.length out) : out = freshL known l := by
  unfold FrRel at h
  rw [h]; simp [freshL]
theorem met_step {known : List Int} {l : List Ev} {k : Nat} (hk : k < l.length) : metL known (l.take (k + 1)) = (metL known (l.take k) || decide (l[k].id ∈ known)) := by
  unfold metL
  rw [List.take_succ_eq_append_getElem hk, List.any_append]
  simp

/-- a list of events of its own and a Bool -/
def GivesOB (S : Nat → Prop) (l : List Ev) (b : Bool) (w : World) (e : Ending) (w' : World) : Prop := ∃ v', e = .returned (.tuple #[v', .bool b]) ∧ OwnE w.heap.size w' S v' l ∧ Below w.heap.size w w'

theorem ownE_nil (base : Nat) (w : World) (S : Nat → Prop) : OwnE base w S (.slice none 0 0) [] := ⟨[], World.ownsRow_nil _ _ _ _, Told.nil⟩
/-- one event more -/
theorem ownE_step {base : Nat} {w w' : World} {B : Nat} {T : Nat → Prop} (hT : ∀ b, T b → b < B) {v' : Value} {n : Nat} {css : List (List Value)} {out : List Ev} {cs : List Value} {e : Ev} (hown' : w'.ownsRow base 68 29 v' n (css.flatten ++ cs)) (hn : n = out.length + 1)
    (ht : Told (EvR w T) css out) (he : EvR w T cs e) (hb : ∀ b, b < B → w'.heap[b]? = w.heap[b]?) (hs : B ≤ w.heap.size) (hs' : w.heap.size ≤ w'.heap.size) : OwnE base w' T v' (out ++ [e]) := by
  have hk : ∀ {c : List Value} {x : Ev}, EvR w T c x → EvR w' T c x := fun h => by
    obtain ⟨vp, vq, va, vd, vu, vk, rfl, h1, h2, h3, h4, h5, h6⟩ := h
    have hq : ∀ {v : Value} {size n : Nat} {xs : List Value}, Slc w T v size n xs → Slc w' T v size n xs := fun h => by
      obtain ⟨A, c, rfl, k1, k2, k3, k4, k5, k6⟩ := h
      refine ⟨A, c, rfl, k1, k2, k3, k4, fun hne => ?_, k6⟩
      obtain ⟨ad, ha, hlt, hc⟩ := k5 hne
      refine ⟨ad, ha, Nat.lt_of_lt_of_le hlt hs', fun j u hu => ?_⟩
      rw [← hc j u hu]
      exact World.cell?_of_block (by rw [block_of_add]; exact hb _ (hT _ (k6 hne ad ha)))
    exact ⟨vp, vq, va, vd, vu, vk, rfl, hq h1, hq h2, hq h3, hq h4, hq h5, hq h6⟩
  refine ⟨css ++ [cs], ?_, (ht.imp fun _ _ h => hk h).append (Told.one (hk he))⟩
  have h1 : (css ++ [cs]).flatten = css.flatten ++ cs := by simp
  have h2 : (out ++ [e]).length = n := by rw [hn]; simp
  rw [h1, h2]
  exact hown'

set_option maxRecDepth 100000 in
set_option maxHeartbeats 1000000 in
theorem fresh_any {S : Nat → Prop} {cs : List Value} {V : Vw} {v : Value} {l : List Ev} {w : World} (hv : VwR w S cs V) (hr : EvsR w S v l) (hl : l.length ≤ 1073741824) (hV : V.events.length ≤ 1073741824) :
    Calls Try.prog 37 #[.agg cs.toArray, v] w (GivesOB (fun b => S b ∧ b < w.heap.size) (freshL (ids V.events) l) (metL (ids V.events) l) w) := by
  obtain ⟨A, c, A2, c2, A3, c3, rfl, h1, _, _⟩ := hv.form
  obtain ⟨cs, hcs⟩ : ∃ cs, cs = vwCells V (.slice A V.events.length c) (.slice A2 V.gaps.length c2) (.slice A3 V.state.length c3) := ⟨_, rfl⟩
  rw [← hcs]
  have e2 := box_at (heap_alloc_new w (.cells cs.toArray 25)) (j := 2) (u := .slice A V.events.length c) (by rw [hcs]; rfl)
  have hr' := hr.weak (S' := (fun b => S b ∧ b < w.heap.size)) fun _ hs h => ⟨hs, h⟩
  obtain ⟨A0, c0, css, rfl, p1, p2, p3, hr0, ht⟩ := hr'.form
  clear hcs hr hr' hv
  go_enter Try.func37, Try.ntmps37
  go_wp2_with fail
  have hz0 : (w.alloc (.cells cs.toArray 25)).heap.size = w.heap.size + 1 := by simp
  have hbW : Below w.heap.size w (w.alloc (.cells cs.toArray 25)) := ext_alloc (ext_refl w) _
  generalize hW : w.alloc (.cells cs.toArray 25) = W at *
  have HZ := hide hz0
  clear hW hz0
  go_loopw [6, 7, 12] (fun u m i wr => ∃ (k : Nat) (out : List Ev) (css' : List (List Value)), k ≤ l.length ∧ i = .int .i64 (k : Int) ∧ m = .bool (metL (ids V.events) (l.take k)) ∧ wr.ownsRow W.heap.size 68 29 u out.length css'.flatten ∧ Told (EvR wr (fun b => S b ∧ b < w.heap.size)) css' out ∧ Hid (FrRel (ids V.events) l k out) ∧ out.length ≤ k ∧ Below W.heap.size W wr)
    (fun _ _ i _ => l.length - (intOf i).toNat)
  case atStart => exact ⟨0, [], [], Nat.zero_le _, rfl, by simp [metL], World.ownsRow_nil _ _ _ _, Told.nil, FrRel.start _ _, Nat.le_refl _, ext_refl W⟩
  case round =>
    obtain ⟨k, out, css', hk, rfl, rfl, hown, hto, HR, hok, hnx⟩ := hrel
    have hnw := hbW.trans (hnx.mono hbW.size)
    have hzr : w.heap.size < wr.heap.size := by have := HZ.out; have := hnx.size; omega
    by_cases hlt : k < l.length
    · obtain ⟨b, o, ck, rfl, hb, he, _, hc⟩ := evs_at (hr0.ext hnw) (ht.imp fun _ _ h => h.ext hnw) k hlt
      have hn1 := he.length
      have hone := he.one
      have h0 := he.some0
      have r1 : wr.rangeAt b (o + k * 29) ck := hc
      have i0 : (0 : Int) ≤ (k : Int) := by omega
      have i1 : (k : Int) < (l.length : Int) := by omega
      have ev : wr.cell? ⟨w.heap.size, 2, none⟩ = some (.slice A V.events.length c) := by rw [hnx.cell (p := ⟨w.heap.size, 2, none⟩) (by have := HZ.out; show w.heap.size < _; omega)]; exact e2
      have HE := hide he
      have HN := hide hn1
      have HM := hide (met_step (known := ids V.events) hlt)
      have HTO := hide hto
      have HCH := hide (VHas_any (n := l[k].id) (w := wr.alloc (.cells ck.toArray 68)) (h1.ext (ext_alloc hnw _)) hV)
      clear hc he hto hn1
      go_wp2_with (first
        | refine wpList_loadS rfl (.tmp 14) rfl strcE ⟨b, o + k * 29, none⟩ rfl ck HN.out (cells_range r1) ?_
        | refine wpList_newS rfl rfl strcE rfl (.tmp 9) (.tmp 15) rfl rfl rfl ck.toArray rfl (by simpa using HN.out) (by simpa using hone) ?_)
      refine HCH.out.mono ?_
      rintro x w2 ⟨rfl, rfl⟩
      have hb1 : Below W.heap.size W (wr.alloc (.cells ck.toArray 68)) := ext_alloc hnx _
      by_cases hin : l[k].id ∈ ids V.events
      · have hd : decide (l[k].id ∈ ids V.events) = true := decide_eq_true hin
        have HS := hide (HR.out.skip hlt (List.mem_append_left _ hin))
        have HMM := hide (show metL (ids V.events) (l.take (k + 1)) = true by rw [HM.out, hd]; simp)
        clear hin HCH HM HE
        go_wp2_with fail
        go_roundw
        case rel => exact ⟨k + 1, out, css', by omega, by go_num, by rw [HMM.out], own_below hown (ext_alloc (ext_refl wr) _), HTO.out.imp fun _ _ h => h.ext (ext_alloc (ext_refl wr) _), HS.out, by omega, hb1⟩
        case measure => simp [intOf]; omega
      · have hd : decide (l[k].id ∈ ids V.events) = false := decide_eq_false hin
        have HMM := hide (show metL (ids V.events) (l.take (k + 1)) = metL (ids V.events) (l.take k) by rw [HM.out, hd]; simp)
        have HIN := hide hin
        have hown1 := own_below hown (ext_alloc (ext_refl wr) (.cells ck.toArray 68))
        have hto1 : Told (EvR (wr.alloc (.cells ck.toArray 68)) (fun b => S b ∧ b < w.heap.size)) css' out := HTO.out.imp fun _ _ h => h.ext (ext_alloc (ext_refl wr) _)
        have HO2 := hide (VHas_any (n := l[k].id) (S := Any) (l := out) ⟨css', (Slc.own hown1 (by decide)).any, hto1.imp fun _ _ h => h.any⟩ (by omega))
        obtain ⟨Ao, co, rfl, _⟩ := own_form hown
        clear hin HCH HM hto1
        go_wp2_with fail
        refine HO2.out.mono ?_
        rintro x w2 ⟨rfl, rfl⟩
        clear HO2 hd
        by_cases hio : l[k].id ∈ ids out
        · have hd : decide (l[k].id ∈ ids out) = true := decide_eq_true hio
          have HS := hide (HR.out.skip hlt (List.mem_append_right _ hio))
          clear hio HE
          go_wp2_with fail
          go_roundw
          case rel => exact ⟨k + 1, out, css', by omega, by go_num, by rw [HMM.out], hown1, HTO.out.imp fun _ _ h => h.ext (ext_alloc (ext_refl wr) _), HS.out, by omega, hb1⟩
          case measure => simp [intOf]; omega
        · have hd : decide (l[k].id ∈ ids out) = false := decide_eq_false hio
          have HS := hide (HR.out.take hlt (fun h => by rcases List.mem_append.1 h with h | h; exact HIN.out h; exact hio h))
          clear hio
          go_wp2_with (first
            | refine wpList_loadS rfl (.tmp 9) rfl strcE ⟨wr.heap.size, 0, none⟩ rfl ck HN.out (box_all (heap_alloc_new wr _)) ?_
            | refine wpList_buildS (te := 0) rfl (.tmp 29) rfl Try.underlying22 strcE (by decide) (by decide) ck.toArray rfl (by simpa using HN.out) ?_
            | (at_builtin; go_must (refine wpList_append_new rfl (.tmp 28) (.tmp 30) rfl elemE W.heap.size (.slice Ao out.length co) out.length css'.flatten rfl hown1 1 ck.toArray (by simpa using HN.out) rfl (by simpa using hone) (by decide) (by unfold maxLen; omega) (by omega) hb1.size ?_)))
          intro v3 w3 hown3 hg3
          have hb3 := below_of_own hb1 hown1 hg3 hb1.size (Nat.le_refl _)
          have hBB : Below w.heap.size (wr.alloc (.cells ck.toArray 68)) w3 := (Below.refl _ _).grown hg3 (by simp; omega) (fun q hq => Nat.le_trans hbW.size (hown1.lt q hq).1)
          have hst := ownE_step (fun _ h => h.2) hown3 rfl (HTO.out.imp fun _ _ h => h.ext (ext_alloc (ext_refl wr) (.cells ck.toArray 68))) (HE.out.ext (ext_alloc (ext_refl wr) (.cells ck.toArray 68))) hBB.block (by simp; omega) hg3.size
          have HST := hide hst
          clear hst hown3 hg3 hown1 hBB HE r1 h0
          go_wp2_with fail
          go_roundw
          case rel =>
            obtain ⟨css3, o3, t3⟩ := HST.out
            exact ⟨k + 1, out ++ [l[k]], css3, by omega, by go_num, by rw [HMM.out], o3, t3, HS.out, by simp; omega, hb3⟩
          case measure => simp [intOf]; omega
    · obtain rfl : k = l.length := by omega
      have HF := hide (FrRel.fin HR.out)
      rw [List.take_length]
      go_wp2_with fail
      go_ret2
      refine ⟨_, rfl, ⟨css', ?_, ?_⟩, hnw⟩
      · rw [← HF.out]; exact own_more hown hbW.size
      · rw [← HF.out]; exact hto
end

section
open Go.RowKit
attribute [local go_sem] Addr.add_mid

/-- an owned row where another block grows -/
theorem own_apart {w w' : World} {base : Nat} {e : TypeId} {size n : Nat} {v : Value} {xs : List Value} {row : Option Nat} (h : w.ownsRow base e size v n xs) (hg : w.grownBy w' row) (hne : ∀ g, v.ownBlock = some g → row ≠ some g) : w'.ownsRow base e size v n xs := by
  refine ⟨h.1, ?_⟩
  rcases h.2 with h2 | ⟨g, cap, cur, rfl, hb, hh, r⟩
  · exact .inl h2
  · refine .inr ⟨g, cap, cur, rfl, hb, ?_, r⟩
    rw [hg.block g (Array.getElem?_eq_some_iff.1 hh).1 (fun e => hne g rfl e.symm)]
    exact hh
section
variable {P : Program} {w : World} {ops : Array Oper} {rest : List Oper} {o : Oper} {a : Act} {Q : Exit → Act → World → Prop} {t e : TypeId} {z : Value} {size bytes : Nat}
/-- 'append(out, x)', and in which block the row lies then -/
theorem wpList_append_at (hgd : o.guard = none) (s x : Operand) (ho : o.op = .call { callee := .builtin .append, args := #[s, x], argTypes := #[t, t] })
    (E : Elem P t e z size bytes) (base : Nat) (v : Value) (n : Nat) (xs : List Value) (hs : a.eval s = v) (hown : w.ownsRow base e size v n xs) (m : Nat) (cs : Array Value) (hcs : cs.size = m * size)
    (hx : a.eval x = .slice (some ⟨w.heap.size, 0, none⟩) m m) (h1 : ∀ u ∈ cs.toList, u.oneCell' = true) (hlen : n + m ≤ maxLen) (hby : (n + m) * bytes ≤ 140737488355328) (hbase : base ≤ w.heap.size)
    (h : ∀ v' w', w'.ownsRow base e size v' (n + m) (xs ++ cs.toList) → w.grownBy w' v.ownBlock → (v'.ownBlock = v.ownBlock ∨ v'.ownBlock = some (w.heap.size + 1)) → wpList P ops Q rest (a.put o.dst v') w') :
    wpList P ops Q (o :: rest) a (w.alloc (.cells cs e)) := by
  obtain ⟨i, hi, hz0, hz1, hz2⟩ := info_parts E.info
  refine wpList_append_own_at _ hgd s x t ho base e i z size bytes E.under hi hz0 hz1 hz2 E.zero E.pos v n xs hs (hown.alloc _) ⟨w.heap.size, 0, none⟩ m m cs.toList hx (by simpa using hcs) ?_ h1 hlen hby (Nat.le_trans hbase (by simp)) ?_
  · exact fun j u hu => by
      obtain ⟨ad, h1, _, h2⟩ := (Row.new (B := w.heap.size + 1) w cs e (0, 0) (by omega)).at hu
      injection h1 with h1; subst h1; exact h2
  · intro v' w' h1 h2 _ h4
    exact h v' w' h1 ⟨h2.os, h2.tape, h2.output, Nat.le_trans (by simp) h2.size, fun k hk hne => (h2.block k (by simp; omega) hne).trans (heap_alloc_old w _ hk)⟩ (by simpa using h4)
end

/-- the numbers of known and taken events -/
theorem ids_snoc (known : List Int) (out : List Ev) (e : Ev) : known ++ ids (out ++ [e]) = (known ++ ids out) ++ [e.id] := by simp [ids]

set_option maxRecDepth 100000 in
set_option maxHeartbeats 1000000 in
theorem RFresh_any {S : Nat → Prop} {cs : List Value} {V : Vw} {v : Value} {l : List Ev} {w : World} (hv : VwR w S cs V) (hr : EvsR w S v l) (hl : l.length ≤ 1048576) (hV : V.events.length ≤ 1048576) :
    Calls Try.prog 40 #[.agg cs.toArray, v] w (GivesO (fun b => S b ∧ b < w.heap.size) (freshL (ids V.events) l) w) := by
  obtain ⟨A, c, A2, c2, A3, c3, rfl, h1, _, _⟩ := hv.form
  obtain ⟨cs, hcs⟩ : ∃ cs, cs = vwCells V (.slice A V.events.length c) (.slice A2 V.gaps.length c2) (.slice A3 V.state.length c3) := ⟨_, rfl⟩
  rw [← hcs]
  have e2 := box_at (heap_alloc_new w (.cells cs.toArray 25)) (j := 2) (u := .slice A V.events.length c) (by rw [hcs]; rfl)
  have hr' := hr.weak (S' := (fun b => S b ∧ b < w.heap.size)) fun _ hs h => ⟨hs, h⟩
  obtain ⟨A0, c0, css, rfl, p1, p2, p3, hr0, ht⟩ := hr'.form
  have hbW : Below w.heap.size w (w.alloc (.cells cs.toArray 25)) := ext_alloc (ext_refl w) _
  have HI := hide (R8Ids_any (h1.ext hbW) (by omega))
  clear hcs hr hr' hv
  go_enter Try.func40, Try.ntmps40
  go_wp2_with fail
  refine HI.out.mono ?_
  rintro x w1 ⟨v1, rfl, hown1, hb1⟩
  have hb0 := hbW.trans (hb1.mono hbW.size)
  have hz1 : w.heap.size < w1.heap.size := by have := hb1.size; simp at this; omega
  clear HI e2
  rw [← ids_length] at hown1
  go_wp2_with fail
  go_loopw [5, 6, 7] (fun x u i wr => ∃ (k : Nat) (out : List Ev) (css' : List (List Value)), k ≤ l.length ∧ i = .int .i64 (k : Int) ∧ wr.ownsRow (w.heap.size + 1) 3 1 x (ids V.events ++ ids out).length (ivs (ids V.events ++ ids out)) ∧ wr.ownsRow (w.heap.size + 1) 68 29 u out.length css'.flatten ∧ (∀ g, x.ownBlock = some g → u.ownBlock ≠ some g) ∧
      Told (EvR wr (fun b => S b ∧ b < w.heap.size)) css' out ∧ Hid (FrRel (ids V.events) l k out) ∧ out.length ≤ k ∧ Below w.heap.size w wr ∧ w.heap.size < wr.heap.size)
    (fun _ _ i _ => l.length - (intOf i).toNat)
  case atStart => exact ⟨0, [], [], Nat.zero_le _, rfl, by have := own_more hown1 (show w.heap.size + 1 ≤ _ by simp); simpa [ids] using this, World.ownsRow_nil _ _ _ _, (fun g h e => by cases e), Told.nil, FrRel.start _ _, Nat.le_refl _, hb0, hz1⟩
  case round =>
    clear hown1 hb1 hb0 hz1
    obtain ⟨k, out, css', hk, rfl, hox, hou, hap, hto, HR, hok, hnw, hzr⟩ := hrel
    by_cases hlt : k < l.length
    · obtain ⟨b, o, ck, rfl, hb, he, _, hc⟩ := evs_at (hr0.ext hnw) (ht.imp fun _ _ h => h.ext hnw) k hlt
      have hn1 := he.length
      have hone := he.one
      have h0 := hc 0 _ he.some0
      rw [Nat.add_zero] at h0
      have r1 : wr.rangeAt b (o + k * 29) ck := hc
      have i0 : (0 : Int) ≤ (k : Int) := by omega
      have i1 : (k : Int) < (l.length : Int) := by omega
      have HE := hide he
      have HN := hide hn1
      have HTO := hide hto
      have hlen : (ids V.events ++ ids out).length ≤ 1073741824 := by rw [List.length_append, ids_length, ids_length]; omega
      obtain ⟨X, hX⟩ : ∃ X, X = ids V.events ++ ids out := ⟨_, rfl⟩
      rw [← hX] at hox hlen
      obtain ⟨Ax, cx, rfl, _⟩ := own_form hox
      have HCH := hide (R1Has_any (n := l[k].id) (c := cx) (Row.own hox) hlen)
      have HAP := hide hap
      have HX := hide hX
      clear hc he hto hn1 hap hX
      go_wp2_with fail
      refine HCH.out.mono ?_
      rintro x w2 ⟨rfl, rfl⟩
      by_cases hin : l[k].id ∈ X
      · have hd : decide (l[k].id ∈ X) = true := decide_eq_true hin
        have HS := hide (HR.out.skip hlt (by rw [← HX.out]; exact hin))
        clear hin HCH HE
        go_wp2_with fail
        go_roundw
        case rel => exact ⟨k + 1, out, css', by omega, by go_num, by rw [← HX.out]; exact hox, hou, HAP.out, HTO.out, HS.out, by omega, hnw, hzr⟩
        case measure => simp [intOf]; omega
      · have hd : decide (l[k].id ∈ X) = false := decide_eq_false hin
        have HS := hide (HR.out.take hlt (by rw [← HX.out]; exact hin))
        clear hin HCH
        go_wp2_with (first
          | refine wpList_loadS rfl (.tmp 28) rfl strcE ⟨b, o + k * 29, none⟩ rfl ck HN.out (cells_range r1) ?_
          | refine wpList_buildS (te := 0) rfl (.tmp 29) rfl Try.underlying22 strcE (by decide) (by decide) ck.toArray rfl (by simpa using HN.out) ?_
          | (at_builtin; go_must (refine wpList_append_at rfl (.tmp 25) (.tmp 30) rfl elemE (w.heap.size + 1) u6 out.length css'.flatten rfl hou 1 ck.toArray (by simpa using HN.out) rfl (by simpa using hone) (by unfold maxLen; omega) (by omega) hzr ?_)))
        intro v3 w3 hou3 hg3 hat3
        have hrow : ∀ q, u6.ownBlock = some q → w.heap.size ≤ q := fun q hq => by have := (hou.lt q hq).1; omega
        have hBB : Below w.heap.size wr w3 := (Below.refl _ _).grown hg3 (by omega) hrow
        have hnw3 := hnw.trans hBB
        obtain ⟨css3, o3, t3⟩ := ownE_step (fun _ h => h.2) hou3 rfl HTO.out HE.out hBB.block (by omega) hg3.size
        have hox3 := own_apart hox hg3 (fun g h => HAP.out g h)
        have hz3 : w.heap.size + 1 ≤ w3.heap.size := Nat.le_trans hzr hg3.size
        have hxb : ∀ g, (Value.slice Ax X.length cx).ownBlock = some g → v3.ownBlock ≠ some g := fun g h e => by
          rcases hat3 with h4 | h4
          · exact HAP.out g h (h4 ▸ e)
          · rw [h4] at e; injection e with e; have := (hox.lt g h).2; omega
        have HXB := hide hxb
        have hox3l := fun g h => (hox.lt g h)
        obtain ⟨b', o', ck', hbo, hb', he', _, hc'⟩ := evs_at (hr0.ext hnw3) (ht.imp fun _ _ h => h.ext hnw3) k hlt
        simp only [Option.some.injEq, Addr.mk.injEq, and_true] at hbo
        obtain ⟨rfl, rfl⟩ := hbo
        have h0' := hc' 0 _ he'.some0
        rw [Nat.add_zero] at h0'
        have HO3 := hide o3; have HT3 := hide t3; have HL3 := hide hox3l
        clear hou3 hg3 hat3 hrow hBB o3 t3 hxb hc' he' HE HTO hox3l r1 h0 hox hou hnw
        go_wp2_with (at_builtin; go_must (refine wpList_append_at rfl (.tmp 32) (.tmp 38) rfl elemI (w.heap.size + 1) (.slice Ax X.length cx) X.length (ivs X) rfl hox3 1 _ rfl rfl (by simp [Value.oneCell']) (by unfold maxLen; omega) (by omega) hz3 ?_))
        intro v4 w4 hox4 hg4 hat4
        have hap4 : ∀ g, v4.ownBlock = some g → v3.ownBlock ≠ some g := fun g h e => by
          rcases hat4 with h4 | h4
          · exact HXB.out g (h4 ▸ h) e
          · rw [h4] at h; injection h with h; have := (HO3.out.lt g e).2; omega
        have o4 := own_apart HO3.out hg4 (fun g h e => HXB.out g e h)
        have hrow : ∀ q, (Value.slice Ax X.length cx).ownBlock = some q → w.heap.size ≤ q := fun q hq => by have := (HL3.out q hq).1; omega
        have t4 : Told (EvR w4 (fun b => S b ∧ b < w.heap.size)) css3 (out ++ [l[k]]) := HT3.out.imp fun _ _ h => h.grown hg4 (fun b hb e => by have := (HL3.out b e).1; have := hb.2; omega)
        have hnw4 := hnw3.grown hg4 (by omega) hrow
        have hz4 : w.heap.size < w4.heap.size := Nat.lt_of_lt_of_le hz3 hg4.size
        have hxe : X.length + 1 = (ids V.events ++ ids (out ++ [l[k]])).length ∧ ivs X ++ #[Value.int .i64 l[k].id].toList = ivs (ids V.events ++ ids (out ++ [l[k]])) := by
          rw [ids_snoc, ← HX.out]; simp [ivs]
        rw [hxe.1, hxe.2] at hox4
        have HO4 := hide o4; have HT4 := hide t4; have HX4 := hide hox4; have HAP4 := hide hap4
        clear hxe o4 t4 hox4 hap4 hat4 hg4 hrow HO3 HT3 HL3 HXB h0' hnw3
        go_wp2_with fail
        go_roundw
        case rel => exact ⟨k + 1, out ++ [l[k]], css3, by omega, by go_num, HX4.out, HO4.out, HAP4.out, HT4.out, HS.out, by simp; omega, hnw4, hz4⟩
        case measure => simp [intOf]; omega
    · obtain rfl : k = l.length := by omega
      have HF := hide (FrRel.fin HR.out)
      go_wp2_with fail
      go_ret
      refine ⟨_, rfl, ⟨css', ?_, ?_⟩, hnw⟩
      · rw [← HF.out]; exact own_more hou (by omega)
      · rw [← HF.out]; exact hto
end

section
open Go.RowKit
attribute [local go_sem] Addr.add_mid

/-- how many elements end with the last known one -/
def behindN (known : List Int) : List Ev → Nat
  | [] => 0
  | e :: l => if 0 < behindN known l then behindN known l + 1 else if e.id ∈ known then 1 else 0
theorem behindN_snoc (known : List Int) (e : Ev) : ∀ l : List Ev, behindN known (l ++ [e]) = if e.id ∈ known then l.length + 1 else behindN known l
  | [] => by simp [behindN]
  | x :: l => by
    have ih := behindN_snoc known e l
    simp only [List.cons_append, behindN, ih, List.length_cons]
    by_cases h : e.id ∈ known
    · simp [h]
    · simp [h]
theorem behindN_le (known : List Int) : ∀ l : List Ev, behindN known l ≤ l.length
  | [] => Nat.le_refl _
  | e :: l => by
    have ih := behindN_le known l
    simp only [behindN, List.length_cons]
    split
    · omega
    · split <;> omega
theorem behind_step {known : List Int} {l : List Ev} {k : Nat} (hk : k < l.length) : behindN known (l.take (k + 1)) = if l[k].id ∈ known then k + 1 else behindN known (l.take k) := by
  rw [List.take_succ_eq_append_getElem hk, behindN_snoc, List.length_take, Nat.min_eq_left (Nat.le_of_lt hk)]

set_option maxRecDepth 100000 in
set_option maxHeartbeats 1000000 in
theorem RMet_any {S : Nat → Prop} {cs : List Value} {V : Vw} {v : Value} {l : List Ev} {w : World} (hv : VwR w S cs V) (hr : EvsR w S v l) (hl : l.length ≤ 1048576) (hV : V.events.length ≤ 1048576) :
    Calls Try.prog 41 #[.agg cs.toArray, v] w (Says (metL (ids V.events) l) w) := by
  obtain ⟨A, c, A2, c2, A3, c3, rfl, h1, _, _⟩ := hv.form
  obtain ⟨cs, hcs⟩ : ∃ cs, cs = vwCells V (.slice A V.events.length c) (.slice A2 V.gaps.length c2) (.slice A3 V.state.length c3) := ⟨_, rfl⟩
  rw [← hcs]
  have e2 := box_at (heap_alloc_new w (.cells cs.toArray 25)) (j := 2) (u := .slice A V.events.length c) (by rw [hcs]; rfl)
  obtain ⟨A0, c0, css, rfl, p1, p2, p3, hr0, ht⟩ := hr.form
  have hbW : Below w.heap.size w (w.alloc (.cells cs.toArray 25)) := ext_alloc (ext_refl w) _
  have HI := hide (R8Ids_any (h1.ext hbW) (by omega))
  clear hcs hr hv
  go_enter Try.func41, Try.ntmps41
  go_wp2_with fail
  refine HI.out.mono ?_
  rintro x w1 ⟨v1, rfl, hown1, hb1⟩
  have hb0 := hbW.trans (hb1.mono hbW.size)
  have hil : (ids V.events).length ≤ 1073741824 := by rw [ids_length]; omega
  clear HI e2 hb1
  rw [← ids_length] at hown1
  obtain ⟨X, hX⟩ : ∃ X, X = ids V.events := ⟨_, rfl⟩
  rw [← hX] at hown1 hil
  have HX := hide hX
  obtain ⟨Ax, cx, rfl, _⟩ := own_form hown1
  have HCH := hide (fun n : Int => R1Has_any (n := n) (c := cx) (Row.own hown1) hil)
  have HR := hide (hr0.ext hb0); have HT := hide (ht.imp fun _ _ h => h.ext hb0)
  clear hX hown1 hr0 ht
  go_wp2_with fail
  go_loop [6] (fun i => ∃ k : Nat, k ≤ l.length ∧ i = .int .i64 (k : Int) ∧ Hid (metL X (l.take k) = false)) (fun i => l.length - (intOf i).toNat)
  case atStart => exact ⟨0, Nat.zero_le _, rfl, by simp [Hid, metL]⟩
  case round =>
    obtain ⟨k, hk, rfl, HM⟩ := hrel
    by_cases hlt : k < l.length
    · obtain ⟨b, o, ck, rfl, hb, he, _, hc⟩ := evs_at HR.out HT.out k hlt
      have h0 := hc 0 _ he.some0
      rw [Nat.add_zero] at h0
      have HS := hide (met_step (known := X) hlt)
      clear hc he
      go_wp2_with fail
      refine (HCH.out l[k].id).mono ?_
      rintro x w2 ⟨rfl, rfl⟩
      by_cases hin : l[k].id ∈ X
      · have hd : decide (l[k].id ∈ X) = true := decide_eq_true hin
        have HF := hide (show metL X l = true by unfold metL; rw [List.any_eq_true]; exact ⟨l[k], List.getElem_mem hlt, hd⟩)
        clear hin HCH HS
        go_wp2_with fail
        go_ret
        exact ⟨by rw [← HX.out, HF.out]; rfl, hb0⟩
      · have hd : decide (l[k].id ∈ X) = false := decide_eq_false hin
        have HS' := hide (show metL X (l.take (k + 1)) = false by rw [HS.out, HM.out, hd]; rfl)
        clear hin HS
        go_wp2_with fail
        go_round
        case rel => exact ⟨k + 1, by omega, by go_num, HS'.out⟩
        case measure => simp [intOf]; omega
    · obtain rfl : k = l.length := by omega
      have HF := hide (show metL X l = false by have := HM.out; rwa [List.take_length] at this)
      go_wp2_with fail
      go_ret
      exact ⟨by rw [← HX.out, HF.out]; rfl, hb0⟩

/-- a part of a list of events comes back, not copied -/
def GivesE1 (S : Nat → Prop) (l : List Ev) (w : World) (e : Ending) (w' : World) : Prop := ∃ v', e = .returned v' ∧ EvsR w' S v' l ∧ Below w.heap.size w w'
/-- 's[k:]' of a list of events -/
theorem evs_cut {w : World} {S : Nat → Prop} {A : Option Addr} {c : Nat} {l : List Ev} (h : EvsR w S (.slice A l.length c) l) (k : Nat) (hk : k ≤ l.length) : EvsR w S (.slice (cutA A c k 29) (l.length - k) (c - k)) (l.drop k) := by
  obtain ⟨A', c', css, hv, h1, h2, h3, hr, ht⟩ := h.form
  injection hv with hv1 _ hv2
  subst hv1 hv2
  refine ⟨css.drop k, ?_, ht.drop k⟩
  have hl : (css.drop k).flatten.length = (l.length - k) * 29 := by rw [told_len (ht.drop k), List.length_drop]
  have hrow := hr.cutA (size := 29) (k := k) (c := c) (told_len ht) h1
  rw [flat_drop k (told_size ht)] at hrow
  refine ⟨cutA A c k 29, c - k, by rw [List.length_drop], by rw [List.length_drop]; exact hl, by rw [List.length_drop]; omega, by omega, ?_, hrow, fun _ _ _ => trivial⟩
  intro hn
  rw [List.length_drop]
  unfold cutA at hn
  split at hn
  · have := h3 hn; omega
  · cases A with
    | none => have := h3 rfl; omega
    | some a => cases hn

set_option maxRecDepth 100000 in
set_option maxHeartbeats 1000000 in
theorem RBehind_any {S : Nat → Prop} {cs : List Value} {V : Vw} {v : Value} {l : List Ev} {w : World} (hv : VwR w S cs V) (hr : EvsR w S v l) (hl : l.length ≤ 1048576) (hV : V.events.length ≤ 1048576) :
    Calls Try.prog 46 #[.agg cs.toArray, v] w (GivesE1 S (l.drop (behindN (ids V.events) l)) w) := by
  obtain ⟨A, c, A2, c2, A3, c3, rfl, h1, _, _⟩ := hv.form
  obtain ⟨cs, hcs⟩ : ∃ cs, cs = vwCells V (.slice A V.events.length c) (.slice A2 V.gaps.length c2) (.slice A3 V.state.length c3) := ⟨_, rfl⟩
  rw [← hcs]
  have e2 := box_at (heap_alloc_new w (.cells cs.toArray 25)) (j := 2) (u := .slice A V.events.length c) (by rw [hcs]; rfl)
  obtain ⟨A0, c0, css, rfl, p1, p2, p3, hr0, ht⟩ := hr.form
  have hbW : Below w.heap.size w (w.alloc (.cells cs.toArray 25)) := ext_alloc (ext_refl w) _
  have HI := hide (R8Ids_any (h1.ext hbW) (by omega))
  have HRR := hide hr
  clear hcs hr hv
  go_enter Try.func46, Try.ntmps46
  go_wp2_with fail
  refine HI.out.mono ?_
  rintro x w1 ⟨v1, rfl, hown1, hb1⟩
  have hb0 := hbW.trans (hb1.mono hbW.size)
  have hil : (ids V.events).length ≤ 1073741824 := by rw [ids_length]; omega
  clear HI e2 hb1
  rw [← ids_length] at hown1
  obtain ⟨X, hX⟩ : ∃ X, X = ids V.events := ⟨_, rfl⟩
  rw [← hX] at hown1 hil
  have HX := hide hX
  obtain ⟨Ax, cx, rfl, _⟩ := own_form hown1
  have HCH := hide (fun n : Int => R1Has_any (n := n) (c := cx) (Row.own hown1) hil)
  have HR := hide (hr0.ext hb0); have HT := hide (ht.imp fun _ _ h => h.ext hb0)
  clear hX hown1 hr0 ht
  go_wp2_with fail
  go_loop [6, 7] (fun q i => ∃ k : Nat, k ≤ l.length ∧ i = .int .i64 (k : Int) ∧ ∃ n : Nat, q = .int .i64 (n : Int) ∧ n ≤ l.length ∧ Hid (n = behindN X (l.take k))) (fun _ i => l.length - (intOf i).toNat)
  case atStart => exact ⟨0, Nat.zero_le _, rfl, 0, rfl, Nat.zero_le _, by simp [Hid, behindN]⟩
  case round =>
    obtain ⟨k, hk, rfl, n, rfl, hn, HM⟩ := hrel
    by_cases hlt : k < l.length
    · obtain ⟨b, o, ck, rfl, hb, he, _, hc⟩ := evs_at HR.out HT.out k hlt
      have h0 := hc 0 _ he.some0
      rw [Nat.add_zero] at h0
      have HS := hide (behind_step (known := X) hlt)
      clear hc he
      go_wp2_with fail
      refine (HCH.out l[k].id).mono ?_
      rintro x w2 ⟨rfl, rfl⟩
      by_cases hin : l[k].id ∈ X
      · have hd : decide (l[k].id ∈ X) = true := decide_eq_true hin
        have HS' := hide (show k + 1 = behindN X (l.take (k + 1)) by rw [HS.out, if_pos hin])
        clear hin HS
        go_wp2_with fail
        go_round
        case rel => exact ⟨k + 1, by omega, by go_num, k + 1, by go_num, by omega, HS'.out⟩
        case measure => simp [intOf]; omega
      · have hd : decide (l[k].id ∈ X) = false := decide_eq_false hin
        have HS' := hide (show n = behindN X (l.take (k + 1)) by rw [HS.out, if_neg hin]; exact HM.out)
        clear hin HS
        go_wp2_with fail
        go_round
        case rel => exact ⟨k + 1, by omega, by go_num, n, rfl, hn, HS'.out⟩
        case measure => simp [intOf]; omega
    · obtain rfl : k = l.length := by omega
      have hrun := run_cut elemE A0 l.length c0 n hn
      have HF := hide (show n = behindN X l by have := HM.out; rwa [List.take_length] at this)
      have HC := hide (evs_cut (HRR.out.ext hb0) n hn)
      clear HM HCH
      go_wp2_with fail
      go_ret
      exact ⟨_, rfl, by rw [← HX.out, ← HF.out]; exact HC.out, hb0⟩
end
end Go.Proofs.Ytbehflldghhopaa

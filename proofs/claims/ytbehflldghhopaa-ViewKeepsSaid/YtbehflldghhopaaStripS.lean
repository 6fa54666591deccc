/-
  What a redaction leaves of an event: reference Strip.
  Stripping some events of a list: plain laws.
  The reference's strip.
  ahead, of the code and of the reference.
  view.state.
-/
import Derived.Test.YtbehflldghhopaaStrip
import Derived.Test.YtbehflldghhopaaAggs
import Derived.Test.YtbehflldghhopaaSamesB
import Derived.Test.YtbehflldghhopaaFreshs
import Derived.WalkLawsBesides
import Derived.Deep.QuietTactic
import Derived.BigQuiet
set_option linter.unusedVariables false
set_option linter.unusedSimpArgs false
namespace Go.Proofs.Ytbehflldghhopaa
section
section
open Go.RowKit
attribute [local go_sem] Addr.add_mid

/-- the event with a content that a call gave: where it all lies in the end -/
theorem strip_end {w w1 w2 w3 : World} {S : Nat → Prop} {cs cs' : List Value} {e : Ev} {c : Con} {o1 o2 : Obj} (he : EvR w S cs e) (hc : ConR w1 (fun b => (S b ∧ b < w.heap.size) ∨ ((w.alloc o1).alloc o2).heap.size ≤ b) cs' c) (hb : Below ((w.alloc o1).alloc o2).heap.size ((w.alloc o1).alloc o2) w1)
    (g1 : w1.grownBy w2 (some w.heap.size)) (g2 : w2.grownBy w3 (some (w.heap.size + 1))) : EvR w3 (fun b => S b ∨ w.heap.size ≤ b) (cs.take 10 ++ (cs' ++ cs.drop 26)) { e with con := c } ∧ Below w.heap.size w w3 := by
  have hz : ((w.alloc o1).alloc o2).heap.size = w.heap.size + 2 := by simp
  have hB1 : Below w.heap.size w w1 := (below_two w o1 o2).trans (hb.mono (by omega))
  have hB2 := hB1.grown g1 hB1.size (fun k hk => by injection hk with hk; omega)
  have hB3 := hB2.grown g2 hB2.size (fun k hk => by injection hk with hk; omega)
  refine ⟨?_, hB3⟩
  have hc2 := hc.weak (S' := fun b => (S b ∧ b ≠ w.heap.size ∧ b ≠ w.heap.size + 1) ∨ w.heap.size + 2 ≤ b) (fun b h _ => by
    rcases h with h | h
    · exact .inl ⟨h.1, by omega, by omega⟩
    · exact .inr (by omega))
  have hc3 : ConR w3 (fun b => S b ∨ w.heap.size ≤ b) cs' c := by
    obtain ⟨va, vd, vu, vk, rfl, k1, k2, k3, k4⟩ := hc2
    have hq : ∀ {v : Value} {size n : Nat} {xs : List Value}, Slc w1 (fun b => (S b ∧ b ≠ w.heap.size ∧ b ≠ w.heap.size + 1) ∨ w.heap.size + 2 ≤ b) v size n xs → Slc w3 (fun b => S b ∨ w.heap.size ≤ b) v size n xs := fun h =>
      ((h.grown g1 (fun b hb e => by injection e with e; rcases hb with hb | hb <;> omega)).grown g2 (fun b hb e => by injection e with e; rcases hb with hb | hb <;> omega)).weak (fun b hb _ => by
        rcases hb with hb | hb
        · exact .inl hb.1
        · exact .inr (by omega))
    exact ⟨va, vd, vu, vk, rfl, hq k1, hq k2, hq k3, hq k4⟩
  have he3 := (he.weak (S' := fun b => S b ∨ w.heap.size ≤ b) fun _ hb _ => .inl hb).ext hB3
  exact he3.withCon hc3

set_option maxRecDepth 100000 in
set_option maxHeartbeats 1000000 in
theorem R7Strip_any {S : Nat → Prop} {cs : List Value} {e : Ev} {w : World} (he : EvR w S cs e) :
    Calls Try.prog 51 #[.agg cs.toArray] w (GivesE S (stripE e) w) := by
  have hn := he.length
  have h3 := he.some3
  have hone := he.one
  have HE := hide he
  have HN := hide hn
  clear hn
  have hc0 := (he.con.weak (S' := fun b => S b ∧ b < w.heap.size) fun _ hb hlt => ⟨hb, hlt⟩)
  have HC := hide (fun o1 o2 => hc0.ext (below_two w o1 o2))
  clear he hc0
  go_enter Try.func51, Try.ntmps51
  go_wp2_with (first
    | refine wpList_zeroS rfl rfl strcE ?_
    | refine wpList_loadS rfl (.tmp 5) rfl strcC ⟨w.heap.size, 10, none⟩ rfl ((cs.drop 10).take 16) (by have := HN.out; simp; omega) (box_cells (C := cs) (tb := 68) (heap_alloc2_old w _ _) 10 16) ?_)
  refine (R6Strip_any (k := e.kind) (HC.out _ _)).mono ?_
  rintro x w1 ⟨cs', rfl, hc', hb1⟩
  have hn' := hc'.length
  have HN' := hide hn'
  have hone' := hc'.one
  have hB1 := box_below (heap_alloc2_old w (.cells cs.toArray 68) (.cells evZero 68)) hb1
  have hB2 := box_below (heap_alloc2_new w (.cells cs.toArray 68) (.cells evZero 68)) hb1
  have HC' := hide hc'; have HB1 := hide hb1
  clear hc' hb1 HC
  go_wp2_with (refine wpList_storeB rfl (.tmp 8) (.tmp 7) rfl rfl strcC w.heap.size 10 rfl cs' rfl hn' hone' cs 68 hB1 (by have := HN.out; omega) ?_)
  intro w2 hB1' g1 hz2
  have hB2' := box_grown hB2 g1 (by omega)
  have hp : (patch cs 10 cs').length = 29 := by have := HN.out; rw [patch_length _ _ _ (by omega)]; exact this
  have hpo : ∀ u ∈ patch cs 10 cs', u.oneCell' = true := by
    intro u hu
    rcases List.mem_append.1 hu with hu | hu
    · exact hone u (List.mem_of_mem_take hu)
    · rcases List.mem_append.1 hu with hu | hu
      · exact hone' u hu
      · exact hone u (List.mem_of_mem_drop hu)
  clear hB1 hB2
  go_wp2_with (first
    | refine wpList_loadS rfl (.tmp 1) rfl strcE ⟨w.heap.size, 0, none⟩ rfl (patch cs 10 cs') hp (box_all hB1') ?_
    | refine wpList_storeB rfl (.tmp 2) (.tmp 9) rfl rfl strcE (w.heap.size + 1) 0 rfl (patch cs 10 cs') rfl hp hpo evZero.toList 68 hB2' (by decide) ?_)
  intro w3 hB3 g2 hz3
  rw [patch_all _ _ (by rw [hp]; rfl)] at hB3
  have hend := strip_end HE.out HC'.out HB1.out g1 g2
  rw [show cs.take 10 ++ (cs' ++ cs.drop 26) = patch cs 10 cs' by simp [patch, hn']] at hend
  have HEND := hide hend
  clear hend
  go_wp2_with fail
  exact bodyPost_cell strcE rfl (w.heap.size + 1) rfl rfl hB3 (by simpa using hp) ⟨_, rfl, HEND.out.1, HEND.out.2⟩
end

section
open Go.RowKit

def stripL (ns : List Int) (l : List Ev) : List Ev := l.map fun e => if e.id ∈ ns then stripE e else e
theorem stripL_length (ns : List Int) (l : List Ev) : (stripL ns l).length = l.length := by simp [stripL]
/-- the first k elements done -/
def mixL (ns : List Int) (l : List Ev) (k : Nat) : List Ev := stripL ns (l.take k) ++ l.drop k
theorem mixL_length (ns : List Int) (l : List Ev) (k : Nat) (hk : k ≤ l.length) : (mixL ns l k).length = l.length := by simp [mixL, stripL]; omega
theorem mixL_get (ns : List Int) (l : List Ev) (k : Nat) (hk : k < l.length) (h : k < (mixL ns l k).length) : (mixL ns l k)[k] = l[k] := by
  simp only [mixL]
  rw [List.getElem_append_right (by simp [stripL]; omega)]
  simp [stripL, Nat.min_eq_left (Nat.le_of_lt hk)]
theorem mixL_keep (ns : List Int) (l : List Ev) (k : Nat) (hk : k < l.length) (h : l[k].id ∉ ns) : mixL ns l (k + 1) = mixL ns l k := by
  unfold mixL stripL
  rw [List.take_succ_eq_append_getElem hk, List.map_append, List.map_cons, List.map_nil, if_neg h, List.append_assoc, List.drop_eq_getElem_cons hk]
  rfl
theorem mixL_strip (ns : List Int) (l : List Ev) (k : Nat) (hk : k < l.length) (h : l[k].id ∈ ns) : mixL ns l (k + 1) = (mixL ns l k).set k (stripE l[k]) := by
  unfold mixL stripL
  rw [List.take_succ_eq_append_getElem hk, List.map_append, List.map_cons, List.map_nil, if_pos h, List.append_assoc, List.drop_eq_getElem_cons hk]
  rw [List.set_append_right _ _ (by simp; omega)]
  simp [Nat.min_eq_left (Nat.le_of_lt hk)]
  rw [List.drop_eq_getElem_cons hk]
  rfl
theorem mixL_zero (ns : List Int) (l : List Ev) : mixL ns l 0 = l := by simp [mixL, stripL]
theorem mixL_all (ns : List Int) (l : List Ev) : mixL ns l l.length = stripL ns l := by simp [mixL]
theorem flat_patch {n : Nat} : ∀ {css : List (List Value)} (k : Nat) (c : List Value), (∀ d ∈ css, d.length = n) → k < css.length → c.length = n → patch css.flatten (k * n) c = (css.set k c).flatten
  | [], _, _, _, h, _ => by simp at h
  | d :: css, 0, c, hs, _, hc => by
    have hd := hs d (by simp)
    simp only [patch, Nat.zero_mul, List.take_zero, List.nil_append, Nat.zero_add, List.flatten_cons, List.set_cons_zero]
    rw [List.drop_append, List.drop_eq_nil_of_le (by omega), hc, hd]
    simp
  | d :: css, k + 1, c, hs, hk, hc => by
    have hd := hs d (by simp)
    have ih := flat_patch (css := css) k c (fun x hx => hs x (List.mem_cons_of_mem _ hx)) (by simpa using hk) hc
    simp only [List.set_cons_succ, List.flatten_cons]
    rw [← ih]
    simp only [patch, Nat.succ_mul]
    rw [List.take_append, List.take_of_length_le (by omega), List.drop_append, List.drop_eq_nil_of_le (by omega), hd]
    rw [show k * n + n - n = k * n by omega, show k * n + n + c.length - n = k * n + c.length by omega]
    simp

/-- an owned row that is not empty: its block -/
theorem own_block {w : World} {base : Nat} {e : TypeId} {size n : Nat} {v : Value} {xs : List Value} (h : w.ownsRow base e size v n xs) (hn : 0 < n) (hs : 0 < size) : ∃ g c, v = .slice (some ⟨g, 0, none⟩) n c ∧ base ≤ g ∧ g < w.heap.size ∧ n ≤ c := by
  rcases h.2 with ⟨rfl, hx⟩ | ⟨g, cap, cur, hv, hb, hh, hc, _⟩
  · omega
  · exact ⟨g, cap, hv, hb, (Array.getElem?_eq_some_iff.1 hh).1, hc⟩
end

section
open Go.RowKit
attribute [local go_sem] Addr.add_mid

/-- one event more, its inner rows apart from the row itself -/
theorem ownE_apart {base : Nat} {w w' : World} {T : Nat → Prop} {u v' : Value} {n q : Nat} {css : List (List Value)} {out : List Ev} {cs : List Value} {e : Ev} (hown' : w'.ownsRow base 68 29 v' n (css.flatten ++ cs)) (hn : n = out.length + 1)
    (ht : Told (EvR w (fun b => u.ownBlock ≠ some b ∧ T b)) css out) (he : EvR w (fun b => u.ownBlock ≠ some b ∧ T b) cs e) (hg : w.grownBy w' u.ownBlock) (hat : v'.ownBlock = u.ownBlock ∨ v'.ownBlock = some q) (hq : w.heap.size ≤ q) :
    w'.ownsRow base 68 29 v' (out ++ [e]).length (css ++ [cs]).flatten ∧ Told (EvR w' (fun b => v'.ownBlock ≠ some b ∧ T b)) (css ++ [cs]) (out ++ [e]) := by
  have hk : ∀ {c : List Value} {x : Ev}, EvR w (fun b => u.ownBlock ≠ some b ∧ T b) c x → EvR w' (fun b => v'.ownBlock ≠ some b ∧ T b) c x := fun h => by
    refine ((h.weak (S' := fun b => u.ownBlock ≠ some b ∧ v'.ownBlock ≠ some b ∧ T b) fun b hb hlt => ⟨hb.1, fun e => ?_, hb.2⟩).grown hg fun b hb e => hb.1 e).weak fun b hb _ => hb.2
    rcases hat with h4 | h4
    · exact hb.1 (h4 ▸ e)
    · rw [h4] at e; injection e with e; omega
  refine ⟨?_, (ht.imp fun _ _ h => hk h).append (Told.one (hk he))⟩
  have h1 : (css ++ [cs]).flatten = css.flatten ++ cs := by simp
  have h2 : (out ++ [e]).length = n := by rw [hn]; simp
  rw [h1, h2]
  exact hown'

theorem stripL_step (ns : List Int) {l : List Ev} {k : Nat} (hk : k < l.length) : stripL ns (l.take (k + 1)) = stripL ns (l.take k) ++ [if l[k].id ∈ ns then stripE l[k] else l[k]] := by
  rw [List.take_succ_eq_append_getElem hk, stripL, List.map_append]; rfl

set_option maxRecDepth 100000 in
set_option maxHeartbeats 1000000 in
theorem RStrip_any {S : Nat → Prop} {v : Value} {l : List Ev} {ns : List Int} {A : Option Addr} {c : Nat} {w : World} (hr : EvsR w S v l) (hns : Row w w.heap.size A (ivs ns)) (hl : l.length ≤ 1073741824) (hnl : ns.length ≤ 1073741824) :
    Calls Try.prog 35 #[v, .slice A ns.length c] w (GivesO (fun b => S b ∨ w.heap.size ≤ b) (stripL ns l) w) := by
  have hr' := hr.weak (S' := fun b => S b ∧ b < w.heap.size) fun _ hb hlt => ⟨hb, hlt⟩
  obtain ⟨A0, c0, css0, rfl, p1, p2, p3, hr0, ht0⟩ := hr'.form
  clear hr hr'
  go_enter Try.func35, Try.ntmps35
  go_wp2_with fail
  go_loopw [5, 6] (fun u i wr => ∃ (k : Nat) (css : List (List Value)), k ≤ l.length ∧ i = .int .i64 (k : Int) ∧ wr.ownsRow w.heap.size 68 29 u (stripL ns (l.take k)).length css.flatten ∧ Told (EvR wr (fun b => u.ownBlock ≠ some b ∧ (S b ∨ w.heap.size ≤ b))) css (stripL ns (l.take k)) ∧ Below w.heap.size w wr)
    (fun _ i _ => l.length - (intOf i).toNat)
  case atStart => exact ⟨0, [], Nat.zero_le _, rfl, World.ownsRow_nil _ _ _ _, Told.nil, ext_refl w⟩
  case round =>
    obtain ⟨k, css, hk, rfl, hou, hto, hnw⟩ := hrel
    by_cases hlt : k < l.length
    · obtain ⟨b, o, ck, rfl, hb, he, _, hc⟩ := evs_at (hr0.ext hnw) (ht0.imp fun _ _ h => h.ext hnw) k hlt
      have hn1 := he.length
      have hone := he.one
      have h0 := hc 0 _ he.some0
      rw [Nat.add_zero] at h0
      have r1 : wr.rangeAt b (o + k * 29) ck := hc
      have i0 : (0 : Int) ≤ (k : Int) := by omega
      have i1 : (k : Int) < (l.length : Int) := by omega
      have hob : ∀ q, u5.ownBlock = some q → w.heap.size ≤ q := fun q hq => (hou.lt q hq).1
      have hob2 : ∀ q, u5.ownBlock = some q → q < wr.heap.size := fun q hq => (hou.lt q hq).2
      have HB1 := hide hob; have HB2 := hide hob2
      have HE := hide he; have HN := hide hn1; have HTO := hide hto; have HSS := hide (stripL_step ns hlt)
      have hlen : (stripL ns (l.take k)).length ≤ l.length := by rw [stripL_length, List.length_take]; omega
      obtain ⟨X, hX⟩ : ∃ X, X = stripL ns (l.take k) := ⟨_, rfl⟩
      rw [← hX] at hou hlen HTO HSS
      clear hc he hto hn1 hX hob hob2
      by_cases hm : l[k].id ∈ ns
      · have hd : decide (l[k].id ∈ ns) = true := decide_eq_true hm
        have HS' := hide (show stripL ns (l.take (k + 1)) = X ++ [stripE l[k]] by rw [HSS.out, if_pos hm])
        clear hm HSS
        go_wp2_with fail
        refine (R1Has_any (hns.ext hnw) hnl).mono ?_
        rintro x w2 ⟨rfl, rfl⟩
        go_wp2_with (refine wpList_loadS rfl (.tmp 23) rfl strcE ⟨b, o + k * 29, none⟩ rfl ck HN.out (cells_range r1) ?_)
        refine (R7Strip_any HE.out).mono ?_
        rintro x w3 ⟨cs', rfl, he', hb3⟩
        have hn' := he'.length
        have ho' := he'.one
        have hnw3 := hnw.trans (hb3.mono hnw.size)
        have hou3 := own_below hou hb3
        have HE' := hide he'
        clear he'
        go_wp2_with (first
          | refine wpList_buildS (te := 0) rfl (.tmp 25) rfl Try.underlying22 strcE (by decide) (by decide) cs'.toArray rfl (by simpa using hn') ?_
          | (at_builtin; go_must (refine wpList_append_at rfl (.tmp 20) (.tmp 26) rfl elemE w.heap.size u5 X.length css.flatten rfl hou3 1 cs'.toArray (by simpa using hn') rfl (by simpa using ho') (by unfold maxLen; omega) (by omega) hnw3.size ?_)))
        intro v4 w4 hou4 hg4 hat4
        have hnw4 := below_of_own hnw3 hou3 hg4 hnw3.size (Nat.le_refl _)
        have hst := ownE_apart hou4 rfl (HTO.out.imp fun _ _ h => h.ext hb3) (HE'.out.weak fun b hb hlt' => by
          rcases hb with hb | hb
          · exact ⟨fun e => by have := HB1.out b e; omega, .inl hb.1⟩
          · exact ⟨fun e => by have := HB2.out b e; omega, .inr (Nat.le_trans hnw.size hb)⟩) hg4 hat4 (by omega)
        have HST := hide hst
        clear hst hou4 hg4 hat4 hou3 HE' HE HTO r1 h0 hou hb3
        go_wp2_with fail
        go_roundw
        case rel => exact ⟨k + 1, _, by omega, by go_num, by rw [HS'.out]; exact HST.out.1, by rw [HS'.out]; exact HST.out.2, hnw4⟩
        case measure => simp [intOf]; omega
      · have hd : decide (l[k].id ∈ ns) = false := decide_eq_false hm
        have HS' := hide (show stripL ns (l.take (k + 1)) = X ++ [l[k]] by rw [HSS.out, if_neg hm])
        clear hm HSS
        go_wp2_with fail
        refine (R1Has_any (hns.ext hnw) hnl).mono ?_
        rintro x w2 ⟨rfl, rfl⟩
        go_wp2_with (first
          | refine wpList_loadS rfl (.tmp 31) rfl strcE ⟨b, o + k * 29, none⟩ rfl ck HN.out (cells_range r1) ?_
          | refine wpList_buildS (te := 0) rfl (.tmp 32) rfl Try.underlying22 strcE (by decide) (by decide) ck.toArray rfl (by simpa using HN.out) ?_
          | (at_builtin; go_must (refine wpList_append_at rfl (.tmp 28) (.tmp 33) rfl elemE w.heap.size u5 X.length css.flatten rfl hou 1 ck.toArray (by simpa using HN.out) rfl (by simpa using hone) (by unfold maxLen; omega) (by omega) hnw.size ?_)))
        intro v4 w4 hou4 hg4 hat4
        have hnw4 := below_of_own hnw hou hg4 hnw.size (Nat.le_refl _)
        have hst := ownE_apart hou4 rfl HTO.out (HE.out.weak fun b hb hlt' => ⟨fun e => by have := HB1.out b e; omega, .inl hb.1⟩) hg4 hat4 (by omega)
        have HST := hide hst
        clear hst hou4 hg4 hat4 HE HTO r1 h0 hou
        go_wp2_with fail
        go_roundw
        case rel => exact ⟨k + 1, _, by omega, by go_num, by rw [HS'.out]; exact HST.out.1, by rw [HS'.out]; exact HST.out.2, hnw4⟩
        case measure => simp [intOf]; omega
    · obtain rfl : k = l.length := by omega
      rw [List.take_length] at hou hto
      go_wp2_with fail
      go_ret
      exact ⟨_, rfl, ⟨css, hou, hto.imp fun _ _ h => h.weak fun b hb _ => hb.2⟩, hnw⟩
end
end

section
section
open Go.RowKit
attribute [local go_sem] Addr.add_mid

/-- the order of states -/
def aheadB (a b : Ev) : Bool := decide (a.kind < b.kind) || (a.kind == b.kind && Op.bytesLess a.key.toList b.key.toList)

set_option maxRecDepth 100000 in
set_option maxHeartbeats 1000000 in
theorem VAhead_any {S S2 : Nat → Prop} {cs cs2 : List Value} {a b : Ev} {w : World} (ha : EvR w S cs a) (hb : EvR w S2 cs2 b) :
    Calls Try.prog 30 #[.agg cs.toArray, .agg cs2.toArray] w (Says (aheadB a b) w) := by
  have a3 := ha.some3
  have a5 := ha.some5
  have b3 := hb.some3
  have b5 := hb.some5
  clear ha hb
  go_enter Try.func30, Try.ntmps30
  go_wp2_with fail
  all_goals
    go_ret
    refine ⟨?_, below_two w _ _⟩
    unfold aheadB
    simp [*]

set_option maxRecDepth 100000 in
set_option maxHeartbeats 1000000 in
theorem RAhead_any {S S2 : Nat → Prop} {cs cs2 : List Value} {a b : Ev} {w : World} (ha : EvR w S cs a) (hb : EvR w S2 cs2 b) :
    Calls Try.prog 32 #[.agg cs.toArray, .agg cs2.toArray] w (Says (aheadB a b) w) := by
  have a3 := ha.some3
  have a5 := ha.some5
  have b3 := hb.some3
  have b5 := hb.some5
  clear ha hb
  go_enter Try.func32, Try.ntmps32
  go_wp2_with fail
  all_goals
    go_ret
    refine ⟨?_, below_two w _ _⟩
    unfold aheadB
    simp [*]
end

section
open Go.RowKit
attribute [local go_sem] Addr.add_mid

def matchB (e x : Ev) : Bool := x.kind == e.kind && x.key.toList == e.key.toList
/-- a state with an event in its place -/
def setL (s : List Ev) (e : Ev) : List Ev :=
  match s.findIdx? (matchB e) with
  | some i => s.set i e
  | none => s.take (s.findIdx (aheadB e)) ++ (e :: s.drop (s.findIdx (aheadB e)))
theorem none_step {α : Type} {p : α → Bool} {l : List α} {k : Nat} (h : ∀ x ∈ l.take k, p x = false) (hk : k < l.length) (hp : p l[k] = false) : ∀ x ∈ l.take (k + 1), p x = false := by
  rw [List.take_succ_eq_append_getElem hk]
  intro x hx
  rcases List.mem_append.1 hx with hx | hx
  · exact h x hx
  · rw [List.mem_singleton] at hx; rw [hx]; exact hp
theorem findIdx_at {α : Type} {p : α → Bool} {l : List α} {k : Nat} (h : ∀ x ∈ l.take k, p x = false) (hk : k < l.length) (hp : p l[k] = true) : l.findIdx p = k := by
  rw [List.findIdx_eq hk]
  refine ⟨hp, fun j hj => ?_⟩
  exact h _ (by rw [List.mem_take_iff_getElem]; exact ⟨j, by omega, rfl⟩)
theorem findIdx_no {α : Type} {p : α → Bool} {l : List α} (h : ∀ x ∈ l, p x = false) : l.findIdx p = l.length := by
  rw [List.findIdx_eq_length]; exact h
theorem setL_match {s : List Ev} {e : Ev} {k : Nat} (h : ∀ x ∈ s.take k, matchB e x = false) (hk : k < s.length) (hp : matchB e s[k] = true) : setL s e = s.set k e := by
  unfold setL
  have h1 : s.findIdx? (matchB e) = some k := by
    rw [List.findIdx?_eq_some_iff_findIdx_eq]
    exact ⟨hk, findIdx_at h hk hp⟩
  rw [h1]
theorem setL_no {s : List Ev} {e : Ev} (h : ∀ x ∈ s, matchB e x = false) : setL s e = s.take (s.findIdx (aheadB e)) ++ (e :: s.drop (s.findIdx (aheadB e))) := by
  unfold setL
  rw [List.findIdx?_eq_none_iff.2 h]
/-- where the event will go, as far as is known -/
def AtRel (s : List Ev) (e : Ev) (k a : Nat) : Prop := (a = s.length ∧ ∀ x ∈ s.take k, aheadB e x = false) ∨ (a < k ∧ a = s.findIdx (aheadB e))
theorem AtRel.fin {s : List Ev} {e : Ev} {a : Nat} (h : AtRel s e s.length a) : a = s.findIdx (aheadB e) := by
  rcases h with ⟨h1, h2⟩ | ⟨_, h2⟩
  · rw [List.take_length] at h2; rw [findIdx_no h2]; exact h1
  · exact h2

set_option maxRecDepth 100000 in
set_option maxHeartbeats 2000000 in
theorem state_any {S : Nat → Prop} {v : Value} {l : List Ev} {ce : List Value} {e : Ev} {w : World} (hr : EvsR w S v l) (he : EvR w S ce e) (hl : l.length ≤ 1048576) :
    Calls Try.prog 39 #[v, .agg ce.toArray] w (GivesO S (setL l e) w) := by
  obtain ⟨A0, c0, css0, rfl, p1, p2, p3, hr0, ht0⟩ := hr.form
  have B0 := heap_alloc_new w (.cells ce.toArray 68)
  have hbW : Below w.heap.size w (w.alloc (.cells ce.toArray 68)) := ext_alloc (ext_refl w) _
  have hz0 : (w.alloc (.cells ce.toArray 68)).heap.size = w.heap.size + 1 := by simp
  have e3 := he.some3
  have e5 := he.some5
  have hne := he.length
  have hoe := he.one
  have HN := hide hne; have HEE := hide (he.weak (S' := fun b => S b ∧ b < w.heap.size) fun _ hb hlt => ⟨hb, hlt⟩); have HRR := hide (hr.weak (S' := fun b => S b ∧ b < w.heap.size) fun _ hb hlt => ⟨hb, hlt⟩)
  clear hne he hr
  go_enter Try.func39, Try.ntmps39
  go_wp2_with fail
  generalize hW : w.alloc (.cells ce.toArray 68) = W at *
  have HZ := hide hz0
  clear hW hz0
  go_loopw [5, 12] (fun p i wr => ∃ (k a : Nat), k ≤ l.length ∧ i = .int .i64 (k : Int) ∧ p = .int .i64 (a : Int) ∧ a ≤ l.length ∧ Hid (∀ x ∈ l.take k, matchB e x = false) ∧ Hid (AtRel l e k a) ∧ Below W.heap.size W wr)
    (fun _ i _ => l.length - (intOf i).toNat)
  case atStart => exact ⟨0, l.length, Nat.zero_le _, rfl, rfl, Nat.le_refl _, by simp [Hid], .inl ⟨rfl, by simp⟩, ext_refl W⟩
  case round =>
    obtain ⟨k, a, hk, rfl, rfl, ha, HM, HA, hnx⟩ := hrel
    have hnw := hbW.trans (hnx.mono hbW.size)
    have Br := box_below B0 hnx
    by_cases hlt : k < l.length
    · obtain ⟨b, o, ck, rfl, hb, hek, _, hc⟩ := evs_at (hr0.ext hnw) (ht0.imp fun _ _ h => h.ext hnw) k hlt
      have hn1 := hek.length
      have h3 := hc 3 _ hek.some3
      have h5 := hc 5 _ hek.some5
      have r1 : wr.rangeAt b (o + k * 29) ck := hc
      have q3 := box_at Br e3
      have q5 := box_at Br e5
      have i0 : (0 : Int) ≤ (k : Int) := by omega
      have i1 : (k : Int) < (l.length : Int) := by omega
      have HEK := hide hek; have HN1 := hide hn1
      clear hc hek hn1
      have hmd : matchB e l[k] = (l[k].kind == e.kind && l[k].key.toList == e.key.toList) := rfl
      have HMD := hide hmd; clear hmd
      by_cases hmt : matchB e l[k] = true
      · have HF := hide (setL_match HM.out hlt hmt)
        have hkk : (l[k].kind == e.kind) = true := by rw [HMD.out] at hmt; simp only [Bool.and_eq_true] at hmt; exact hmt.1
        have hks : (l[k].key.toList == e.key.toList) = true := by rw [HMD.out] at hmt; simp only [Bool.and_eq_true] at hmt; exact hmt.2
        clear hmt HMD
        go_wp2_with fail
        go_quiet (fail)
        go_wp2_with fail
        have hbq : Below wr.heap.size wr (wr.drewN nq) := below_drewN (ext_refl wr) nq
        refine (inserted_any (k := k) (HRR.out.ext (hnw.trans (hbq.mono hnw.size))) (EvsR.nil _ _) (by omega) (by omega) (by simp)).mono ?_
        rintro x w2 ⟨v2, rfl, ⟨css2, hown2, ht2⟩, hb2⟩
        have hnw2 := hnw.trans ((hbq.trans (hb2.mono hbq.size)).mono hnw.size)
        have hl2 : (l.take k ++ ([] ++ l.drop k)) = l := by simp
        rw [hl2] at hown2 ht2
        obtain ⟨g, c2, rfl, hg1, hg2, _⟩ := own_block hown2 (by omega) (by decide)
        have B2 := box_below (box_below Br hbq) hb2
        have HT2 := hide ht2; have HO2 := hide hown2
        clear ht2 hown2 h3 h5 q3 q5 r1 hkk hks
        go_wp2_with (first
          | refine wpList_loadS rfl (.tmp 3) rfl strcE ⟨w.heap.size, 0, none⟩ rfl ce HN.out (box_all B2) ?_
          | refine wpList_storeS rfl (.tmp 39) (.tmp 38) rfl rfl strcE HO2.out k hlt ⟨g, k * 29, none⟩ (by rw [Addr.add_mid, Nat.zero_add]) rfl ce rfl HN.out hoe ?_)
        intro w3 hown3 hg3
        have hnw3 := hnw2.grown hg3 hnw2.size (fun q hq => by injection hq with hq; have := hnw.size; simp at hg1; omega)
        rw [flat_patch k ce (told_size HT2.out) (by rw [HT2.out.length]; exact hlt) HN.out] at hown3
        have ht3 : Told (EvR w3 S) (css2.set k ce) (l.set k e) := (Told.set k HT2.out (HEE.out.ext hnw2)).imp fun _ _ h => (h.grown hg3 fun b hb e => by injection e with e; have := hnw.size; simp at hg1; omega).weak fun b hb _ => hb.1
        have hset : (l.set k e).length = l.length := by simp
        have HO3 := hide hown3; have HT3 := hide ht3
        clear hown3 ht3 hg3 HO2 HT2 B2
        go_wp2_with fail
        go_ret
        refine ⟨_, rfl, ⟨css2.set k ce, ?_, ?_⟩, hnw3⟩
        · rw [HF.out, hset]; exact own_more HO3.out (by have := hnw.size; simp; omega)
        · rw [HF.out]; exact HT3.out
      · have hmt : matchB e l[k] = false := by simpa using hmt
        have HS := hide (none_step HM.out hlt hmt)
        have hcase : (l[k].kind == e.kind) = false ∨ ((l[k].kind == e.kind) = true ∧ (l[k].key.toList == e.key.toList) = false) := by
          rw [HMD.out] at hmt
          cases h1 : (l[k].kind == e.kind)
          · exact .inl rfl
          · rw [h1] at hmt; exact .inr ⟨rfl, by simpa using hmt⟩
        clear hmt HMD
        rcases hcase with hkk | ⟨hkk, hks⟩
        all_goals
          by_cases hal : a = l.length
          · have t1 : ((a : Int) == (l.length : Int)) = true := by rw [hal]; simp
            have HAL := hide hal
            clear hal
            go_wp2_with fail
            go_quiet (fail)
            go_wp2_with fail
            have hbq : Below wr.heap.size wr (wr.drewN nq) := below_drewN (ext_refl wr) nq
            have rq : (wr.drewN nq).rangeAt b (o + k * 29) ck := range_below r1 hbq
            have Bq := box_below Br hbq
            refine wp_region_still_tail 10 (by kernel_rfl) (by kernel_rfl) ?_
            simp only [List.take_succ_cons, List.take_zero, List.drop_succ_cons, List.drop_zero]
            iterate 5 still_step
            refine still_loadS rfl (.tmp 3) rfl strcE ⟨w.heap.size, 0, none⟩ rfl ce HN.out (box_all Bq) ?_
            iterate 3 still_step
            refine still_loadS rfl (.tmp 49) rfl strcE ⟨b, o + k * 29, none⟩ rfl ck HN1.out (cells_range rq) ?_
            refine wpStill_nil ?_
            have hbd : Below wr.heap.size wr (wr.drewN nq).drew := ext_drew hbq
            have HAH := hide (VAhead_any (w := (wr.drewN nq).drew) (HEE.out.ext (hnw.trans (hbd.mono hnw.size))) (HEK.out.ext hbd))
            go_wp2_with fail
            refine HAH.out.mono ?_
            rintro x w3 ⟨rfl, hb3⟩
            have hnx3 := hnx.trans ((hbd.trans (hb3.mono hbd.size)).mono hnx.size)
            clear HAH hbd hbq rq Bq Br q3 q5 r1 hb3
            by_cases hah : aheadB e l[k] = true
            · have HA' : Hid (AtRel l e (k + 1) k) := by
                rcases HA.out with ⟨_, h2⟩ | ⟨h2, _⟩
                · exact .inr ⟨by omega, (findIdx_at h2 hlt hah).symm⟩
                · have := HAL.out; omega
              go_wp2_with fail
              go_roundw
              case rel => exact ⟨k + 1, k, by omega, by go_num, rfl, by omega, HS.out, HA'.out, hnx3⟩
              case measure => simp [intOf]; omega
            · have hah : aheadB e l[k] = false := by simpa using hah
              have HA' : Hid (AtRel l e (k + 1) a) := by
                rcases HA.out with ⟨h1, h2⟩ | ⟨h2, _⟩
                · exact .inl ⟨h1, none_step h2 hlt hah⟩
                · have := HAL.out; omega
              go_wp2_with fail
              go_roundw
              case rel => exact ⟨k + 1, a, by omega, by go_num, rfl, ha, HS.out, HA'.out, hnx3⟩
              case measure => simp [intOf]; omega
          · have t1 : ((a : Int) == (l.length : Int)) = false := by simp; omega
            have HA' : Hid (AtRel l e (k + 1) a) := by
              rcases HA.out with ⟨h1, _⟩ | ⟨h2, h3⟩
              · omega
              · exact .inr ⟨by omega, h3⟩
            clear hal
            go_wp2_with fail
            go_quiet (fail)
            go_wp2_with fail
            go_quiet (fail)
            go_wp2_with fail
            go_roundw
            case rel => exact ⟨k + 1, a, by omega, by go_num, rfl, ha, HS.out, HA'.out, by first | exact below_drewN hnx _ | exact below_drewN (below_drewN hnx _) _⟩
            case measure => simp [intOf]; omega
    · obtain rfl : k = l.length := by omega
      have HF := hide (setL_no (show ∀ x ∈ l, matchB e x = false by have := HM.out; rwa [List.take_length] at this))
      have HAF := hide HA.out.fin
      go_wp2_with (first
        | refine wpList_loadS rfl (.tmp 3) rfl strcE ⟨w.heap.size, 0, none⟩ rfl ce HN.out (box_all Br) ?_
        | refine wpList_buildS (te := 0) rfl (.tmp 57) rfl Try.underlying22 strcE (by decide) (by decide) ce.toArray rfl (by simpa using HN.out) ?_)
      have hba : Below w.heap.size w (wr.alloc (.cells ce.toArray 68)) := ext_alloc hnw _
      have hel : EvsR (wr.alloc (.cells ce.toArray 68)) (fun b => S b ∧ b < w.heap.size) (.slice (some ⟨wr.heap.size, 0, none⟩) 1 1) [e] := by
        refine ⟨[ce], ⟨_, _, rfl, ?_, Nat.le_refl _, by unfold maxLen; omega, (fun h => by cases h), ?_, fun _ _ _ => trivial⟩, Told.one (HEE.out.ext hba)⟩
        · simp [HN.out]
        · have := Row.new (B := (wr.alloc (.cells ce.toArray 68)).heap.size) wr ce.toArray 68 (0, 0) (by simp)
          simpa using this
      refine (inserted_any (k := a) (HRR.out.ext hba) hel ha (by omega) (by simp)).mono ?_
      rintro x w2 ⟨v2, rfl, ho2, hb2⟩
      have HO := hide ho2
      have hnw2 := hba.trans (hb2.mono hba.size)
      go_wp2_with fail
      go_ret
      refine ⟨_, rfl, ?_, hnw2⟩
      obtain ⟨css2, hown2, ht2⟩ := HO.out
      rw [HF.out, ← HAF.out]
      exact ⟨css2, own_more hown2 hba.size, ht2.imp fun _ _ h => h.weak fun b hb _ => hb.1⟩
end
end
end Go.Proofs.Ytbehflldghhopaa

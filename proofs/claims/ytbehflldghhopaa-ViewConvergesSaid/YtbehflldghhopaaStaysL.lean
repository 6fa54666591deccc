/-
  Plain: what Apply and Fill make of a small view is small, and right if the view was.
-/
import Derived.Test.YtbehflldghhopaaReadV
set_option linter.unusedVariables false
set_option linter.unusedSimpArgs false
namespace Go.Proofs.Ytbehflldghhopaa
open Go.RowKit

theorem strcP : Strc Try.prog 39 #[.string ⟨#[]⟩, .int .i64 0, .bool false, .slice none 0 0, .bool false, .int .i64 0, .slice none 0 0, .slice none 0 0, .slice none 0 0, .slice none 0 0, .int .i64 0] 11 := ⟨⟨_, Try.underlying39, rfl⟩, by kernel_rfl, rfl⟩
/-! ### Sizes -/
theorem gapG_length (V : Vw) (p : Pt) : (gapG V p).length ≤ V.gaps.length + 1 := by unfold gapG; split <;> simp
theorem roomV_all {V : Vw} {p : Pt} {P : Ev → Prop} (h1 : ∀ e ∈ V.events, P e) (h2 : ∀ e ∈ V.state, P e) : (∀ e ∈ (roomV V p).events, P e) ∧ (∀ e ∈ (roomV V p).state, P e) := by
  unfold roomV
  split
  · exact ⟨fun e he => by simp at he, fun e he => by simp at he⟩
  · exact ⟨h1, h2⟩
theorem laidV_all {V : Vw} {p : Pt} {P : Ev → Prop} (h1 : ∀ e ∈ V.events, P e) (h2 : ∀ e ∈ V.state, P e) (h3 : ∀ e ∈ p.timeline, P e) (h4 : ∀ e ∈ p.state, P e) (n : Nat) :
    (∀ e ∈ (laidV V p n).events, P e) ∧ (∀ e ∈ (laidV V p n).state, P e) :=
  ⟨fun e he => by
    rcases List.mem_append.1 he with he | he
    · exact h1 e he
    · exact h3 e (freshL_mem he), fun e he => by
    rcases foldl_setL_mem he with he | he
    · exact h2 e he
    · exact h4 e (List.mem_of_mem_take he)⟩
theorem applyV_can {V : Vw} {p : Pt} (hV : V.small 14) (hp : p.small 14) : (applyV V p).can := by
  unfold applyV
  split
  · exact small_can hV
  · have f1 : ∀ e ∈ V.events, e.fit := fun e he => Con.fit_of_short (hV.2.1 e he)
    have f2 : ∀ e ∈ V.state, e.fit := fun e he => Con.fit_of_short (hV.2.2.2.1 e he)
    have f3 : ∀ e ∈ p.timeline, e.fit := fun e he => Con.fit_of_short (hp.2.1 e he)
    have f4 : ∀ e ∈ p.state, e.fit := fun e he => Con.fit_of_short (hp.2.2.2.1 e he)
    obtain ⟨g1, g2⟩ := roomV_all (p := p) f1 f2
    obtain ⟨k1, k2⟩ := laidV_all (V := roomV V p) (p := p) g1 g2 f3 f4 p.state.length
    have l1 := roomV_events_le V p
    have l2 := roomV_state_le V p
    have l3 := roomV_gaps_le V p
    have l4 := freshL_length (ids (roomV V p).events) p.timeline
    have l5 := foldl_setL_length (p.state.take p.state.length) (roomV V p).state
    have l6 := gapG_length (roomV V p) p
    have a1 := hV.1; have a2 := hV.2.2.1; have a3 := hV.2.2.2.2.1; have a4 := hp.1; have a5 := hp.2.2.1
    rw [List.take_length] at l5
    refine ⟨?_, ?_, ?_, stripL_fit k1, stripL_fit k2⟩
    · show (stripL p.gone ((roomV V p).events ++ freshL (ids (roomV V p).events) p.timeline)).length ≤ _
      rw [stripL_length, List.length_append]; omega
    · show (stripL p.gone ((p.state.take p.state.length).foldl setL (roomV V p).state)).length ≤ _
      rw [stripL_length, List.take_length]; omega
    · show (gapG (roomV V p) p).length ≤ _; omega
theorem addL_mem {V : Vw} {l : List Ev} {e : Ev} (h : e ∈ addL V l) : e ∈ l := List.mem_of_mem_drop (freshL_mem h)
theorem fillAt_can {V : Vw} {k : Nat} {g : Int × Int} {l : List Ev} {back : Int} {more : Bool} (hV : V.small 14) (hl : l.length ≤ 14) (hs : ∀ e ∈ l, e.short) (hk : k < V.gaps.length) : (fillAt V k g l back more).can := by
  have a1 := hV.1; have a2 := hV.2.2.1; have a3 := hV.2.2.2.2.1
  have l1 := addL_length V l
  have l2 := fillG_length V k g.1 l back more
  refine ⟨?_, by show V.state.length ≤ _; omega, ?_, ?_, fun e he => Con.fit_of_short (hV.2.2.2.1 e he)⟩
  · show (V.events.take g.1.toNat ++ (addL V l ++ V.events.drop g.1.toNat)).length ≤ _
    simp only [List.length_append, List.length_take, List.length_drop]; omega
  · show (fillG V k g.1 l back more ++ shiftG (addL V l).length (V.gaps.drop (k + 1))).length ≤ _
    rw [List.length_append, shiftG_length, List.length_drop]; omega
  · intro e he
    rcases List.mem_append.1 he with he | he
    · exact Con.fit_of_short (hV.2.1 e (List.mem_of_mem_take he))
    · rcases List.mem_append.1 he with he | he
      · exact Con.fit_of_short (hs e (addL_mem he))
      · exact Con.fit_of_short (hV.2.1 e (List.mem_of_mem_drop he))
theorem zeroVw_can : zeroVw.can := ⟨by decide, by decide, by decide, fun e he => by simp [zeroVw] at he, fun e he => by simp [zeroVw] at he⟩
theorem fillV_can {V : Vw} {i back : Int} {l : List Ev} {more : Bool} (hV : V.small 14) (hl : l.length ≤ 14) (hs : ∀ e ∈ l, e.short) : (fillV V i l back more).can := by
  unfold fillV
  split
  · exact zeroVw_can
  · split
    · next g hg => exact fillAt_can hV hl hs (List.getElem?_eq_some_iff.1 hg).1
    · exact zeroVw_can

/-! ### Chains -/
theorem chainB_append {α : Type} {R : α → α → Bool} : ∀ {a b : List α}, chainB R a = true → chainB R b = true → (∀ x y, a.getLast? = some x → b.head? = some y → R x y = true) → chainB R (a ++ b) = true
  | [], b, _, hb, _ => hb
  | [x], [], _, _, _ => rfl
  | [x], y :: b, _, hb, h => by
    show (R x y && chainB R (y :: b)) = true
    rw [h x y rfl rfl, hb]; rfl
  | x :: y :: a, b, ha, hb, h => by
    unfold chainB at ha
    rw [Bool.and_eq_true] at ha
    show (R x y && chainB R (y :: a ++ b)) = true
    rw [ha.1, chainB_append ha.2 hb (fun u v hu hv => h u v (by simpa using hu) hv)]; rfl
theorem chainB_map {α β : Type} {R : α → α → Bool} {S : β → β → Bool} {f : α → β} (h : ∀ a b, R a b = S (f a) (f b)) : ∀ l : List α, chainB R l = chainB S (l.map f)
  | [] => rfl
  | [a] => rfl
  | a :: b :: l => by
    show (R a b && chainB R (b :: l)) = (S (f a) (f b) && chainB S ((b :: l).map f))
    rw [h, chainB_map h (b :: l)]
theorem chainB_sub {α : Type} {R : α → α → Bool} {a b : List α} (h : chainB R (a ++ b) = true) : chainB R a = true ∧ chainB R b = true := by
  rw [chainB_iff] at h
  refine ⟨chainB_iff.2 fun j hj => ?_, chainB_iff.2 fun j hj => ?_⟩
  · have := h j (by simp; omega)
    rwa [List.getElem_append_left (by omega), List.getElem_append_left hj] at this
  · have := h (a.length + j) (by simp; omega)
    rw [List.getElem_append_right (by omega), List.getElem_append_right (by omega)] at this
    simpa [Nat.add_assoc] using this
theorem chainB_take {α : Type} {R : α → α → Bool} {l : List α} (h : chainB R l = true) (k : Nat) : chainB R (l.take k) = true := by
  rw [← List.take_append_drop k l] at h; exact (chainB_sub h).1
theorem chainB_drop {α : Type} {R : α → α → Bool} {l : List α} (h : chainB R l = true) (k : Nat) : chainB R (l.drop k) = true := by
  rw [← List.take_append_drop k l] at h; exact (chainB_sub h).2

/-! ### States -/
def keyE (e : Ev) : Int × List UInt8 := (e.kind, e.key.toList)
def keyLt (a b : Int × List UInt8) : Bool := decide (a.1 < b.1) || (a.1 == b.1 && Op.bytesLess a.2 b.2)
theorem ahead_key (a b : Ev) : aheadB a b = keyLt (keyE a) (keyE b) := rfl
theorem match_key {e x : Ev} : matchB e x = true ↔ keyE x = keyE e := by
  unfold matchB keyE
  simp
theorem bytes_tri : ∀ x y : List UInt8, Op.bytesLess x y = false → x ≠ y → Op.bytesLess y x = true
  | [], [], _, h => absurd rfl h
  | [], _ :: _, h, _ => by simp [Op.bytesLess] at h
  | _ :: _, [], _, _ => by simp [Op.bytesLess]
  | a :: x, b :: y, h, hn => by
    simp only [Op.bytesLess, Bool.or_eq_false_iff, Bool.and_eq_false_iff, decide_eq_false_iff_not, beq_eq_false_iff_ne] at h
    simp only [Op.bytesLess, Bool.or_eq_true, Bool.and_eq_true, decide_eq_true_eq, beq_iff_eq]
    by_cases hab : a = b
    · subst hab
      right
      refine ⟨rfl, bytes_tri x y (h.2.resolve_left (fun h => h rfl)) fun e => hn (by rw [e])⟩
    · left
      have h1 := UInt8.not_lt.1 h.1
      exact UInt8.lt_of_le_of_ne h1 (fun e => hab e.symm)
theorem key_tri {a b : Int × List UInt8} (h : keyLt a b = false) (hn : b ≠ a) : keyLt b a = true := by
  unfold keyLt at h ⊢
  obtain ⟨a1, a2⟩ := a
  obtain ⟨b1, b2⟩ := b
  simp only [Bool.or_eq_false_iff, decide_eq_false_iff_not, Bool.and_eq_false_iff, beq_eq_false_iff_ne] at h
  simp only [Bool.or_eq_true, decide_eq_true_eq, Bool.and_eq_true, beq_iff_eq]
  by_cases he : a1 = b1
  · subst he
    right
    exact ⟨rfl, bytes_tri a2 b2 (h.2.resolve_left (fun h => h rfl)) fun e => hn (by rw [e])⟩
  · left; omega
theorem setL_chain {s : List Ev} {e : Ev} (h : chainB aheadB s = true) : chainB aheadB (setL s e) = true := by
  unfold setL
  split
  · next i hi =>
    obtain ⟨hlt, hm, _⟩ := List.findIdx?_eq_some_iff_getElem.1 hi
    rw [chainB_map ahead_key] at h ⊢
    have : (s.set i e).map keyE = s.map keyE := by
      rw [List.map_set]
      apply List.ext_getElem?
      intro j
      rw [List.getElem?_set]
      split
      · next hj =>
        subst hj
        rw [List.getElem?_map, List.getElem?_eq_getElem hlt]
        simp only [List.length_map, hlt, if_true, Option.map_some]
        rw [match_key.1 hm]
      · rfl
    rw [this]; exact h
  · next hi =>
    have hno : ∀ x ∈ s, matchB e x = false := by
      have := List.findIdx?_eq_none_iff.1 hi
      exact this
    have hk : s.findIdx (aheadB e) ≤ s.length := List.findIdx_le_length
    refine chainB_append (chainB_take h _) ?_ ?_
    · cases hd : s.drop (s.findIdx (aheadB e)) with
      | nil => rfl
      | cons y r =>
        show (aheadB e y && chainB aheadB (y :: r)) = true
        have hlt : s.findIdx (aheadB e) < s.length := by
          rcases Nat.lt_or_ge (s.findIdx (aheadB e)) s.length with h | h
          · exact h
          · rw [List.drop_eq_nil_of_le h] at hd; cases hd
        have hy : y = s[s.findIdx (aheadB e)] := by
          rw [List.drop_eq_getElem_cons hlt] at hd
          injection hd with h1 _; exact h1.symm
        rw [hy, List.findIdx_getElem (w := hlt)]
        have := chainB_drop h (s.findIdx (aheadB e))
        rw [hd] at this
        rw [← hy, this]; rfl
    · intro x y hx hy
      simp only [List.head?_cons, Option.some.injEq] at hy
      subst hy
      have hxm : x ∈ s.take (s.findIdx (aheadB e)) := List.mem_of_getLast? hx
      obtain ⟨j, hj, hjx⟩ := List.getElem_of_mem hxm
      rw [List.length_take] at hj
      rw [List.getElem_take] at hjx
      have h1 : aheadB e x = false := by
        have := List.not_of_lt_findIdx (p := aheadB e) (xs := s) (i := j) (by omega)
        rw [← hjx]; simpa using this
      have h2 : matchB e x = false := hno x (List.mem_of_mem_take hxm)
      rw [ahead_key] at h1 ⊢
      exact key_tri h1 fun e' => by rw [match_key.2 e'] at h2; cases h2
theorem foldl_setL_chain {l s : List Ev} (h : chainB aheadB s = true) : chainB aheadB (l.foldl setL s) = true := by
  induction l generalizing s with
  | nil => exact h
  | cons e l ih => exact ih (setL_chain h)
theorem stripL_chain (ns : List Int) (l : List Ev) : chainB aheadB (stripL ns l) = chainB aheadB l := by
  unfold stripL
  rw [chainB_map ahead_key, chainB_map ahead_key, List.map_map]
  congr 1
  apply List.map_congr_left
  intro e _
  show keyE (if e.id ∈ ns then stripE e else e) = keyE e
  split <;> rfl
theorem stripL_ids (ns : List Int) (l : List Ev) : ids (stripL ns l) = ids l := by
  unfold stripL ids
  rw [List.map_map]
  apply List.map_congr_left
  intro e _
  show (if e.id ∈ ns then stripE e else e).id = e.id
  split <;> rfl

/-! ### New events -/
theorem freshL_nodup : ∀ (l : List Ev) (known : List Int), known.Nodup → (known ++ ids (freshL known l)).Nodup
  | [], known, h => by simpa [freshL, ids] using h
  | e :: l, known, h => by
    unfold freshL
    split
    · exact freshL_nodup l known h
    · next hn =>
      have h1 : (known ++ [e.id]).Nodup := by
        rw [List.nodup_append]
        exact ⟨h, by simp, fun a ha b hb e' => by rw [List.mem_singleton] at hb; exact hn (by rw [← hb, ← e']; exact ha)⟩
      have := freshL_nodup l (known ++ [e.id]) h1
      simpa [ids] using this
theorem ids_append (a b : List Ev) : ids (a ++ b) = ids a ++ ids b := by simp [ids]

/-! ### Apply -/
theorem checkV_of {V : Vw} (h1 : (ids V.events).Nodup) (h2 : V.inside) (h3 : chainB gapLt V.gaps = true) (h4 : chainB aheadB V.state = true) : checkV V = 0 := checkV_ok h1 h2 h3 h4
theorem roomV_right {V : Vw} (h : checkV V = 0) (p : Pt) : checkV (roomV V p) = 0 := by
  obtain ⟨h1, h2, h3, h4⟩ := checkV_inv h
  unfold roomV
  split
  · exact checkV_of (by simp [ids]) (fun g hg => by simp at hg) rfl rfl
  · exact checkV_of h1 h2 h3 h4
theorem gapG_right {V : Vw} {p : Pt} (h2 : V.inside) (h3 : chainB gapLt V.gaps = true) : chainB gapLt (gapG V p) = true ∧ ∀ g ∈ gapG V p, 0 ≤ g.1 ∧ g.1 < ((V.events ++ freshL (ids V.events) p.timeline).length : Int) := by
  unfold gapG
  split
  · next hb =>
    have hpos : 0 < (freshL (ids V.events) p.timeline).length := by
      unfold gapB at hb
      simp only [Bool.and_eq_true, decide_eq_true_eq] at hb
      exact hb.1.2
    refine ⟨chainB_append h3 rfl fun x y hx hy => ?_, fun g hg => ?_⟩
    · simp only [List.head?_cons, Option.some.injEq] at hy
      subst hy
      exact decide_eq_true (h2 x (List.mem_of_getLast? hx)).2
    · rw [List.length_append]
      rcases List.mem_append.1 hg with hg | hg
      · have := h2 g hg; omega
      · rw [List.mem_singleton] at hg; subst hg
        show 0 ≤ (V.events.length : Int) ∧ (V.events.length : Int) < _
        omega
  · refine ⟨h3, fun g hg => ?_⟩
    rw [List.length_append]
    have := h2 g hg; omega
theorem applyV_right {V : Vw} (h : checkV V = 0) (p : Pt) : checkV (applyV V p) = 0 := by
  unfold applyV
  split
  · exact h
  · have hr := roomV_right h p
    generalize roomV V p = V1 at hr ⊢
    obtain ⟨h1, h2, h3, h4⟩ := checkV_inv hr
    obtain ⟨g1, g2⟩ := gapG_right (p := p) h2 h3
    refine checkV_of ?_ ?_ g1 ?_
    · show (ids (stripL p.gone (V1.events ++ freshL (ids V1.events) p.timeline))).Nodup
      rw [stripL_ids, ids_append]
      exact freshL_nodup _ _ h1
    · intro g hg
      have := g2 g hg
      show 0 ≤ g.1 ∧ g.1 < ((stripL p.gone (V1.events ++ freshL (ids V1.events) p.timeline)).length : Int)
      rw [stripL_length]; exact this
    · show chainB aheadB (stripL p.gone ((p.state.take p.state.length).foldl setL V1.state)) = true
      rw [stripL_chain]
      exact foldl_setL_chain h4

/-! ### Fill -/
theorem nodup_of_perm {a b : List Int} (h : a.Perm b) (hn : a.Nodup) : b.Nodup := h.nodup_iff.1 hn
theorem fill_ids {V : Vw} (h : (ids V.events).Nodup) (k : Nat) (l : List Ev) : (ids (V.events.take k ++ (freshL (ids V.events) l ++ V.events.drop k))).Nodup := by
  have h1 := freshL_nodup l _ h
  refine nodup_of_perm ?_ h1
  rw [ids_append, ids_append]
  have h2 : ids V.events = ids (V.events.take k) ++ ids (V.events.drop k) := by rw [← ids_append, List.take_append_drop]
  generalize ids (freshL (ids V.events) l) = F
  rw [h2, List.append_assoc]
  exact List.Perm.append_left _ List.perm_append_comm
theorem gap_pair {l : List (Int × Int)} (h : chainB gapLt l = true) : (l.map Prod.fst).Pairwise (· < ·) := by
  induction l with
  | nil => exact List.Pairwise.nil
  | cons a l ih =>
    cases l with
    | nil => simp
    | cons b l =>
      unfold chainB at h
      rw [Bool.and_eq_true] at h
      have h1 : a.1 < b.1 := by have := h.1; unfold gapLt at this; exact of_decide_eq_true this
      have h2 := ih h.2
      rw [List.map_cons, List.pairwise_cons]
      refine ⟨fun x hx => ?_, h2⟩
      rw [List.map_cons, List.mem_cons] at hx
      rcases hx with rfl | hx
      · exact h1
      · rw [List.map_cons, List.pairwise_cons] at h2
        have := h2.1 x hx
        omega
theorem pair_gap {l : List (Int × Int)} (h : (l.map Prod.fst).Pairwise (· < ·)) : chainB gapLt l = true := by
  rw [chainB_iff]
  intro j hj
  have := List.pairwise_iff_getElem.1 h j (j + 1) (by simp; omega) (by simpa using hj) (by omega)
  simp only [List.getElem_map] at this
  exact decide_eq_true this
theorem fillAt_right {V : Vw} {k : Nat} {l : List Ev} {back : Int} {more : Bool} (h : checkV V = 0) (hk : k < V.gaps.length) : checkV (fillAt V k V.gaps[k] l back more) = 0 := by
  obtain ⟨h1, h2, h3, h4⟩ := checkV_inv h
  have hin := h2 V.gaps[k] (List.getElem_mem hk)
  have hlen : (V.events.take V.gaps[k].1.toNat ++ (addL V l ++ V.events.drop V.gaps[k].1.toNat)).length = V.events.length + (addL V l).length := by
    simp only [List.length_append, List.length_take, List.length_drop]; omega
  have hp := gap_pair h3
  refine checkV_of (fill_ids h1 _ _) ?_ ?_ h4
  · intro g hg
    show 0 ≤ g.1 ∧ g.1 < ((V.events.take V.gaps[k].1.toNat ++ (addL V l ++ V.events.drop V.gaps[k].1.toNat)).length : Int)
    rw [hlen]
    rcases List.mem_append.1 hg with hg | hg
    · have hg' : g ∈ V.gaps.take k ∨ g.1 = V.gaps[k].1 := by
        unfold fillG at hg
        split at hg
        · rcases List.mem_append.1 hg with hg | hg
          · exact .inl hg
          · rw [List.mem_singleton] at hg; right; rw [hg]
        · exact .inl hg
      rcases hg' with hg | hg
      · have := h2 g (List.mem_of_mem_take hg); omega
      · omega
    · obtain ⟨g0, hg0, rfl⟩ := List.mem_map.1 hg
      have := h2 g0 (List.mem_of_mem_drop hg0)
      show 0 ≤ g0.1 + ((addL V l).length : Int) ∧ g0.1 + ((addL V l).length : Int) < _
      omega
  · apply pair_gap
    show ((fillG V k V.gaps[k].1 l back more ++ shiftG (addL V l).length (V.gaps.drop (k + 1))).map Prod.fst).Pairwise (· < ·)
    have hfst : V.gaps.map Prod.fst = (V.gaps.take (k + 1)).map Prod.fst ++ (V.gaps.drop (k + 1)).map Prod.fst := by rw [← List.map_append, List.take_append_drop]
    rw [hfst, List.pairwise_append] at hp
    obtain ⟨q1, q2, q3⟩ := hp
    have hsub : ((fillG V k V.gaps[k].1 l back more).map Prod.fst).Sublist ((V.gaps.take (k + 1)).map Prod.fst) := by
      rw [List.take_succ_eq_append_getElem hk]
      unfold fillG
      split
      · rw [List.map_append, List.map_append]
        exact List.Sublist.refl _
      · exact List.Sublist.map _ (List.sublist_append_left _ _)
    have hsh : (shiftG (addL V l).length (V.gaps.drop (k + 1))).map Prod.fst = ((V.gaps.drop (k + 1)).map Prod.fst).map (· + ((addL V l).length : Int)) := by
      unfold shiftG; rw [List.map_map, List.map_map]; rfl
    rw [List.map_append, hsh, List.pairwise_append]
    refine ⟨List.Pairwise.sublist hsub q1, ?_, ?_⟩
    · rw [List.pairwise_map]
      exact q2.imp fun h => by omega
    · intro a ha b hb
      obtain ⟨b0, hb0, rfl⟩ := List.mem_map.1 hb
      have := q3 a (hsub.subset ha) b0 hb0
      omega
theorem fillV_right {V : Vw} {i back : Int} {l : List Ev} {more : Bool} (h : checkV V = 0) (he : fillE V i = 0) : checkV (fillV V i l back more) = 0 := by
  unfold fillE at he
  unfold fillV
  split at he
  · cases he
  · next ho =>
    rw [if_neg ho]
    split
    · next g hg =>
      obtain ⟨hk, hg'⟩ := List.getElem?_eq_some_iff.1 hg
      subst hg'
      exact fillAt_right h hk
    · rfl
end Go.Proofs.Ytbehflldghhopaa

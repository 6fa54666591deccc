/-
  Plain: applying a part twice; which ids stay.
-/
import Derived.Test.YtbehflldghhopaaStaysL
set_option linter.unusedVariables false
set_option linter.unusedSimpArgs false
namespace Go.Proofs.Ytbehflldghhopaa
open Go.RowKit

/-! ### Strip -/
theorem stripC_idem (k : Int) (c : Con) : stripC k (stripC k c) = stripC k c := by
  unfold stripC
  by_cases h1 : k = 1
  · simp [h1]
  by_cases h2 : k = 2
  · simp [h2]
  by_cases h3 : k = 3
  · simp [h3]
  by_cases h4 : k = 4
  · simp [h4]
  by_cases h5 : k = 5
  · simp [h5]
  by_cases h6 : k = 6
  · simp [h6]
  by_cases h14 : k = 14
  · simp [h14]
  simp [h1, h2, h3, h4, h5, h6, h14]
theorem stripE_idem (e : Ev) : stripE (stripE e) = stripE e := by
  unfold stripE
  simp only [stripC_idem]
def stripF (ns : List Int) (e : Ev) : Ev := if e.id ∈ ns then stripE e else e
theorem stripF_idem (ns : List Int) (e : Ev) : stripF ns (stripF ns e) = stripF ns e := by
  unfold stripF
  by_cases h : e.id ∈ ns
  · rw [if_pos h, if_pos (show (stripE e).id ∈ ns from h), stripE_idem]
  · rw [if_neg h, if_neg h]
theorem stripF_key (ns : List Int) (e : Ev) : keyE (stripF ns e) = keyE e := by unfold stripF; split <;> rfl
theorem stripL_eq (ns : List Int) (l : List Ev) : stripL ns l = l.map (stripF ns) := rfl
theorem stripL_idem (ns : List Int) (l : List Ev) : stripL ns (stripL ns l) = stripL ns l := by
  rw [stripL_eq, stripL_eq, List.map_map]
  exact List.map_congr_left fun e _ => stripF_idem ns e
theorem match_strip (ns : List Int) (e x : Ev) : matchB e (stripF ns x) = matchB e x := by
  have h := match_key (e := e) (x := x)
  have h' := match_key (e := e) (x := stripF ns x)
  rw [stripF_key] at h'
  rw [Bool.eq_iff_iff, h, h']
theorem ahead_strip (ns : List Int) (e x : Ev) : aheadB e (stripF ns x) = aheadB e x := by rw [ahead_key, ahead_key, stripF_key]
theorem setL_strip (ns : List Int) (s : List Ev) (e : Ev) : stripL ns (setL (stripL ns s) e) = stripL ns (setL s e) := by
  have h1 : (stripL ns s).findIdx? (matchB e) = s.findIdx? (matchB e) := by
    rw [stripL_eq, List.findIdx?_map]
    congr 1
    funext x
    exact match_strip ns e x
  have h2 : (stripL ns s).findIdx (aheadB e) = s.findIdx (aheadB e) := by
    rw [stripL_eq, List.findIdx_map]
    congr 1
    funext x
    exact ahead_strip ns e x
  unfold setL
  rw [h1, h2]
  have hid : (s.map (stripF ns)).map (stripF ns) = s.map (stripF ns) := stripL_idem ns s
  split
  · rw [stripL_eq, stripL_eq, stripL_eq, List.map_set, List.map_set, hid]
  · rw [stripL_eq, stripL_eq, stripL_eq]
    simp only [List.map_append, List.map_cons, List.map_take, List.map_drop, hid]
theorem foldl_strip (ns : List Int) : ∀ (ps s : List Ev), stripL ns (ps.foldl setL (stripL ns s)) = stripL ns (ps.foldl setL s)
  | [], s => stripL_idem ns s
  | e :: ps, s => by
    simp only [List.foldl_cons]
    rw [← foldl_strip ns ps (setL (stripL ns s) e), setL_strip, foldl_strip ns ps (setL s e)]

/-! ### States as sets -/
theorem bytes_trans : ∀ x y z : List UInt8, Op.bytesLess x y = true → Op.bytesLess y z = true → Op.bytesLess x z = true
  | _, [], _, h, _ => by simp [Op.bytesLess] at h
  | _, _ :: _, [], _, h => by simp [Op.bytesLess] at h
  | [], _ :: _, _ :: _, _, _ => by simp [Op.bytesLess]
  | a :: x, b :: y, c :: z, h1, h2 => by
    simp only [Op.bytesLess, Bool.or_eq_true, Bool.and_eq_true, decide_eq_true_eq, beq_iff_eq] at h1 h2 ⊢
    rcases h1 with h1 | ⟨rfl, h1⟩
    · rcases h2 with h2 | ⟨rfl, h2⟩
      · exact .inl (UInt8.lt_trans h1 h2)
      · exact .inl h1
    · rcases h2 with h2 | ⟨rfl, h2⟩
      · exact .inl h2
      · exact .inr ⟨rfl, bytes_trans x y z h1 h2⟩
theorem bytes_irr : ∀ x : List UInt8, Op.bytesLess x x = false
  | [] => rfl
  | a :: x => by simp [Op.bytesLess, bytes_irr x]
theorem key_trans {a b c : Int × List UInt8} (h1 : keyLt a b = true) (h2 : keyLt b c = true) : keyLt a c = true := by
  obtain ⟨a1, a2⟩ := a; obtain ⟨b1, b2⟩ := b; obtain ⟨c1, c2⟩ := c
  unfold keyLt at *
  simp only [Bool.or_eq_true, decide_eq_true_eq, Bool.and_eq_true, beq_iff_eq] at *
  rcases h1 with h1 | ⟨rfl, h1⟩
  · rcases h2 with h2 | ⟨rfl, h2⟩
    · left; omega
    · exact .inl h1
  · rcases h2 with h2 | ⟨rfl, h2⟩
    · exact .inl h2
    · exact .inr ⟨rfl, bytes_trans _ _ _ h1 h2⟩
theorem key_irr (a : Int × List UInt8) : keyLt a a = false := by unfold keyLt; simp [bytes_irr]
theorem chain_pair {l : List Ev} (h : chainB aheadB l = true) : l.Pairwise (fun a b => aheadB a b = true) := by
  induction l with
  | nil => exact List.Pairwise.nil
  | cons a l ih =>
    cases l with
    | nil => simp
    | cons b l =>
      unfold chainB at h
      rw [Bool.and_eq_true] at h
      have h2 := ih h.2
      rw [List.pairwise_cons]
      refine ⟨fun x hx => ?_, h2⟩
      rcases List.mem_cons.1 hx with rfl | hx
      · exact h.1
      · rw [List.pairwise_cons] at h2
        rw [ahead_key]
        exact key_trans (b := keyE b) h.1 (h2.1 x hx)
/-- two rising lists with the same elements -/
theorem rising_ext : ∀ {a b : List Ev}, a.Pairwise (fun x y => aheadB x y = true) → b.Pairwise (fun x y => aheadB x y = true) → (∀ x, x ∈ a ↔ x ∈ b) → a = b
  | [], [], _, _, _ => rfl
  | [], y :: b, _, _, h => absurd ((h y).2 (by simp)) (by simp)
  | x :: a, [], _, _, h => absurd ((h x).1 (by simp)) (by simp)
  | x :: a, y :: b, ha, hb, h => by
    rw [List.pairwise_cons] at ha hb
    have irr : ∀ z, aheadB z z ≠ true := fun z hz => by rw [ahead_key, key_irr] at hz; cases hz
    have asym : ∀ u v, aheadB u v = true → aheadB v u = true → False := fun u v h1 h2 => by
      rw [ahead_key] at h1 h2
      have := key_trans h1 h2
      rw [key_irr] at this; cases this
    have hxy : x = y := by
      rcases List.mem_cons.1 ((h x).1 (by simp)) with e | hxb
      · exact e
      · rcases List.mem_cons.1 ((h y).2 (by simp)) with e | hya
        · exact e.symm
        · exact (asym x y (ha.1 y hya) (hb.1 x hxb)).elim
    subst hxy
    rw [rising_ext ha.2 hb.2 fun z => ?_]
    constructor
    · intro hz
      rcases List.mem_cons.1 ((h z).1 (List.mem_cons_of_mem _ hz)) with e | hz'
      · subst e; exact absurd (ha.1 z hz) (irr z)
      · exact hz'
    · intro hz
      rcases List.mem_cons.1 ((h z).2 (List.mem_cons_of_mem _ hz)) with e | hz'
      · subst e; exact absurd (hb.1 z hz) (irr z)
      · exact hz'
theorem setL_iff {s : List Ev} {e x : Ev} (h : chainB aheadB s = true) : x ∈ setL s e ↔ x = e ∨ (x ∈ s ∧ keyE x ≠ keyE e) := by
  have hp := chain_pair h
  have hne : ∀ i j, (hi : i < s.length) → (hj : j < s.length) → i ≠ j → keyE s[i] ≠ keyE s[j] := fun i j hi hj hij e' => by
    rcases Nat.lt_or_gt_of_ne hij with hlt | hlt
    · have := List.pairwise_iff_getElem.1 hp i j hi hj hlt
      rw [ahead_key, e', key_irr] at this; cases this
    · have := List.pairwise_iff_getElem.1 hp j i hj hi hlt
      rw [ahead_key, e', key_irr] at this; cases this
  unfold setL
  split
  · next i hi =>
    obtain ⟨hlt, hm, _⟩ := List.findIdx?_eq_some_iff_getElem.1 hi
    have hke := match_key.1 hm
    constructor
    · intro hx
      obtain ⟨j, hj, hjx⟩ := List.getElem_of_mem hx
      rw [List.length_set] at hj
      rw [List.getElem_set] at hjx
      split at hjx
      · exact .inl hjx.symm
      · next hij =>
        refine .inr ⟨hjx ▸ List.getElem_mem hj, ?_⟩
        rw [← hjx, ← hke]
        exact hne j i hj hlt (fun e => hij e.symm)
    · rintro (rfl | ⟨hx, hk⟩)
      · exact List.mem_set hlt _
      · obtain ⟨j, hj, rfl⟩ := List.getElem_of_mem hx
        have hij : i ≠ j := fun e => by subst e; exact hk hke
        rw [List.mem_iff_getElem]
        exact ⟨j, by simpa using hj, by rw [List.getElem_set_ne hij]⟩
  · next hi =>
    have hno : ∀ x ∈ s, keyE x ≠ keyE e := fun x hx hk => by
      have := List.findIdx?_eq_none_iff.1 hi x hx
      rw [match_key.2 hk] at this; cases this
    rw [List.mem_append, List.mem_cons]
    constructor
    · rintro (hx | rfl | hx)
      · exact .inr ⟨List.mem_of_mem_take hx, hno x (List.mem_of_mem_take hx)⟩
      · exact .inl rfl
      · exact .inr ⟨List.mem_of_mem_drop hx, hno x (List.mem_of_mem_drop hx)⟩
    · rintro (rfl | ⟨hx, _⟩)
      · exact .inr (.inl rfl)
      · rw [← List.take_append_drop (s.findIdx (aheadB e)) s] at hx
        rcases List.mem_append.1 hx with hx | hx
        · exact .inl hx
        · exact .inr (.inr hx)
/-- x is the last of its key in a list -/
def lastIn (x : Ev) : List Ev → Prop
  | [] => False
  | e :: ps => lastIn x ps ∨ (x = e ∧ ∀ y ∈ ps, keyE y ≠ keyE x)
theorem foldl_iff {x : Ev} : ∀ {ps s : List Ev}, chainB aheadB s = true → (x ∈ ps.foldl setL s ↔ lastIn x ps ∨ (x ∈ s ∧ ∀ y ∈ ps, keyE y ≠ keyE x))
  | [], s, h => by simp [lastIn]
  | e :: ps, s, h => by
    simp only [List.foldl_cons]
    rw [foldl_iff (setL_chain h), setL_iff h]
    simp only [lastIn, List.mem_cons, forall_eq_or_imp]
    constructor
    · rintro (h1 | ⟨rfl | ⟨h1, h2⟩, h3⟩)
      · exact .inl (.inl h1)
      · exact .inl (.inr ⟨rfl, h3⟩)
      · exact .inr ⟨h1, fun e' => h2 e'.symm, h3⟩
    · rintro ((h1 | ⟨rfl, h3⟩) | ⟨h1, h2, h3⟩)
      · exact .inl h1
      · exact .inr ⟨.inl rfl, h3⟩
      · exact .inr ⟨.inr ⟨h1, fun e' => h2 e'.symm⟩, h3⟩
theorem foldl_twice {ps s : List Ev} (h : chainB aheadB s = true) : ps.foldl setL (ps.foldl setL s) = ps.foldl setL s := by
  have h1 := foldl_setL_chain (l := ps) h
  refine rising_ext (chain_pair (foldl_setL_chain h1)) (chain_pair h1) fun x => ?_
  rw [foldl_iff h1, foldl_iff h]
  constructor
  · rintro (h | ⟨h | h, h2⟩)
    · exact .inl h
    · exact .inl h
    · exact .inr h
  · rintro (h | h)
    · exact .inl h
    · exact .inr ⟨.inr h, h.2⟩

/-! ### Apply twice -/
theorem freshL_none : ∀ (l : List Ev) (known : List Int), (∀ e ∈ l, e.id ∈ known) → freshL known l = []
  | [], _, _ => rfl
  | e :: l, known, h => by
    unfold freshL
    rw [if_pos (h e (by simp))]
    exact freshL_none l known fun x hx => h x (List.mem_cons_of_mem _ hx)
theorem freshL_all (l : List Ev) (known : List Int) : ∀ e ∈ l, e.id ∈ known ++ ids (freshL known l) := by
  induction l generalizing known with
  | nil => intro e he; cases he
  | cons a l ih =>
    intro x hx
    unfold freshL
    split
    · next hin =>
      rcases List.mem_cons.1 hx with rfl | hx
      · exact List.mem_append_left _ hin
      · exact ih known x hx
    · rcases List.mem_cons.1 hx with rfl | hx
      · simp [ids]
      · have := ih (known ++ [a.id]) x hx
        simpa [ids] using this
theorem freshL_notin (l : List Ev) (known : List Int) : ∀ e ∈ freshL known l, e.id ∉ known := by
  induction l generalizing known with
  | nil => intro e he; cases he
  | cons a l ih =>
    intro e he
    unfold freshL at he
    split at he
    · exact ih known e he
    · next hn =>
      rcases List.mem_cons.1 he with rfl | he
      · exact hn
      · exact fun h => ih _ e he (List.mem_append_left _ h)
theorem applyV_twice {V : Vw} {p : Pt} (h : checkV V = 0) (ha : p.anew = false) : applyV (applyV V p) p = applyV V p := by
  by_cases hr : V.room.toList ≠ [] ∧ V.room.toList ≠ p.room.toList
  · have : applyV V p = V := by unfold applyV; rw [if_pos hr]
    rw [this, this]
  · have e1 : applyV V p = goneV (laidV (roomV V p) p p.state.length) p := by unfold applyV; rw [if_neg hr]
    have hst := (checkV_inv h).2.2.2
    have hV1 : roomV V p = { V with room := p.room, member := p.member } := by unfold roomV; rw [if_neg (by rw [ha]; simp)]
    obtain ⟨y, hy⟩ : ∃ y, y = applyV V p := ⟨_, rfl⟩
    have hroom : y.room = p.room := by rw [hy, e1, hV1]; rfl
    have hmem : y.member = p.member := by rw [hy, e1, hV1]; rfl
    have hev : y.events = stripL p.gone (V.events ++ freshL (ids V.events) p.timeline) := by rw [hy, e1, hV1]; rfl
    have hsta : y.state = stripL p.gone (p.state.foldl setL V.state) := by rw [hy, e1, hV1]; show stripL p.gone ((p.state.take p.state.length).foldl setL V.state) = _; rw [List.take_length]
    have hrm : roomV y p = y := by
      unfold roomV
      rw [if_neg (by rw [ha]; simp), ← hroom, ← hmem]
    have hfr : freshL (ids y.events) p.timeline = [] := by
      apply freshL_none
      intro e he
      rw [hev, stripL_ids, ids_append]
      exact freshL_all _ _ e he
    have hgb : gapB y p = false := by unfold gapB; rw [hfr]; simp
    have hgg : gapG y p = y.gaps := by unfold gapG; rw [hgb]; rfl
    rw [← hy]
    have e2 : applyV y p = goneV (laidV (roomV y p) p p.state.length) p := applyV_go (.inr hroom)
    rw [e2, hrm]
    have e3 : (goneV (laidV y p p.state.length) p).events = y.events := by
      show stripL p.gone (y.events ++ freshL (ids y.events) p.timeline) = y.events
      rw [hfr, List.append_nil, hev, stripL_idem]
    have e4 : (goneV (laidV y p p.state.length) p).state = y.state := by
      show stripL p.gone ((p.state.take p.state.length).foldl setL y.state) = y.state
      rw [List.take_length, hsta, foldl_strip, foldl_twice hst]
    have e5 : goneV (laidV y p p.state.length) p = { room := y.room, member := y.member, events := (goneV (laidV y p p.state.length) p).events, gaps := gapG y p, state := (goneV (laidV y p p.state.length) p).state } := rfl
    rw [e5, e3, e4, hgg]
/-! ### Which ids stay -/
def amongL (l inn : List Int) : List Int := l.filter fun n => decide (n ∈ inn)
theorem among_self (l : List Int) : amongL l l = l := by
  unfold amongL
  rw [List.filter_eq_self]
  intro a ha; simpa using ha
theorem among_old {old new : List Int} (h : ∀ n ∈ new, n ∉ old) : amongL new old = [] := by
  unfold amongL
  rw [List.filter_eq_nil_iff]
  intro a ha; simpa using h a ha
theorem apply_among {V : Vw} {p : Pt} (ha : p.anew = false) : amongL (ids (applyV V p).events) (ids V.events) = ids V.events := by
  by_cases hr : V.room.toList ≠ [] ∧ V.room.toList ≠ p.room.toList
  · have : applyV V p = V := by unfold applyV; rw [if_pos hr]
    rw [this, among_self]
  · have e1 : applyV V p = goneV (laidV (roomV V p) p p.state.length) p := by unfold applyV; rw [if_neg hr]
    have hV1 : roomV V p = { V with room := p.room, member := p.member } := by unfold roomV; rw [if_neg (by rw [ha]; simp)]
    have hev : (applyV V p).events = stripL p.gone (V.events ++ freshL (ids V.events) p.timeline) := by rw [e1, hV1]; rfl
    rw [hev, stripL_ids, ids_append]
    have h1 : amongL (ids (freshL (ids V.events) p.timeline)) (ids V.events) = [] := among_old fun n hn => by
      obtain ⟨e, he, rfl⟩ := List.mem_map.1 hn
      exact freshL_notin _ _ e he
    have h2 : amongL (ids V.events ++ ids (freshL (ids V.events) p.timeline)) (ids V.events) = amongL (ids V.events) (ids V.events) ++ amongL (ids (freshL (ids V.events) p.timeline)) (ids V.events) := List.filter_append ..
    rw [h2, h1, among_self, List.append_nil]
theorem fillAt_among {V : Vw} {k : Nat} {g : Int × Int} {l : List Ev} {back : Int} {more : Bool} : amongL (ids (fillAt V k g l back more).events) (ids V.events) = ids V.events := by
  show amongL (ids (V.events.take g.1.toNat ++ (addL V l ++ V.events.drop g.1.toNat))) (ids V.events) = _
  rw [ids_append, ids_append]
  have h1 : amongL (ids (addL V l)) (ids V.events) = [] := among_old fun n hn => by
    obtain ⟨e, he, rfl⟩ := List.mem_map.1 hn
    exact freshL_notin _ _ e he
  have h3 := among_self (ids V.events)
  have h4 : ids V.events = ids (V.events.take g.1.toNat) ++ ids (V.events.drop g.1.toNat) := by rw [← ids_append, List.take_append_drop]
  unfold amongL at *
  rw [List.filter_append, List.filter_append, h1, List.nil_append, ← List.filter_append, ← h4]
  exact h3
theorem fill_among {V : Vw} {i back : Int} {l : List Ev} {more : Bool} (he : fillE V i = 0) : amongL (ids (fillV V i l back more).events) (ids V.events) = ids V.events := by
  unfold fillE at he
  unfold fillV
  split at he
  · cases he
  · next ho =>
    rw [if_neg ho]
    split
    · exact fillAt_among
    · next hg =>
      exfalso
      unfold outV at ho
      simp only [decide_eq_true_eq, not_or, Int.not_lt, Int.not_le] at ho
      have := List.getElem?_eq_none_iff.1 hg
      omega
theorem applyV_len {V : Vw} {p : Pt} (hV : V.small 14) (hp : p.small 14) : (applyV V p).events.length ≤ 28 ∧ (applyV V p).state.length ≤ 28 ∧ (applyV V p).gaps.length ≤ 15 := by
  have a1 := hV.1; have a2 := hV.2.2.1; have a3 := hV.2.2.2.2.1; have a4 := hp.1; have a5 := hp.2.2.1
  unfold applyV
  split
  · omega
  · have l1 := roomV_events_le V p
    have l2 := roomV_state_le V p
    have l3 := roomV_gaps_le V p
    have l4 := freshL_length (ids (roomV V p).events) p.timeline
    have l5 := foldl_setL_length (p.state.take p.state.length) (roomV V p).state
    have l6 := gapG_length (roomV V p) p
    rw [List.take_length] at l5
    refine ⟨?_, ?_, ?_⟩
    · show (stripL p.gone ((roomV V p).events ++ freshL (ids (roomV V p).events) p.timeline)).length ≤ _
      rw [stripL_length, List.length_append]; omega
    · show (stripL p.gone ((p.state.take p.state.length).foldl setL (roomV V p).state)).length ≤ _
      rw [stripL_length, List.take_length]; omega
    · show (gapG (roomV V p) p).length ≤ _; omega
end Go.Proofs.Ytbehflldghhopaa

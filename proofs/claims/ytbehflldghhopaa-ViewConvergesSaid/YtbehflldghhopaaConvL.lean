/-
  Plain: parts and pages give the timeline.
-/
import Derived.Test.YtbehflldghhopaaKeepsL
set_option linter.unusedVariables false
set_option linter.unusedSimpArgs false
namespace Go.Proofs.Ytbehflldghhopaa
open Go.RowKit

/-- the events from number s on, without those of some intervals -/
def pres {α : Type} (l : List α) : Nat → List (Nat × Nat) → List α
  | s, [] => l.drop s
  | s, m :: ms => (l.take m.1).drop s ++ pres l m.2 ms
/-- the gaps: n events lie in front of number s -/
def gapsOf : Nat → Nat → List (Nat × Nat) → List (Int × Int)
  | _, _, [] => []
  | s, n, m :: ms => (((n + (m.1 - s) : Nat) : Int), (m.2 : Int)) :: gapsOf m.2 (n + (m.1 - s)) ms
/-- intervals in order, from s on, none beyond e -/
def Sound : Nat → Nat → List (Nat × Nat) → Prop
  | s, e, [] => s ≤ e
  | s, e, m :: ms => s ≤ m.1 ∧ m.1 ≤ m.2 ∧ Sound m.2 e ms
/-- how many rounds they take at most -/
def rounds : List (Nat × Nat) → Nat
  | [] => 0
  | m :: ms => (m.2 - m.1 + 1) + rounds ms
theorem Sound.le : ∀ {ms : List (Nat × Nat)} {s e : Nat}, Sound s e ms → s ≤ e
  | [], _, _, h => h
  | m :: ms, s, e, h => by have := Sound.le h.2.2; have := h.1; have := h.2.1; omega
theorem Sound.more : ∀ {ms : List (Nat × Nat)} {s e e' : Nat}, Sound s e ms → e ≤ e' → Sound s e' ms
  | [], _, _, _, h, k => Nat.le_trans h k
  | m :: ms, s, e, e', h, k => ⟨h.1, h.2.1, h.2.2.more k⟩
theorem Sound.snoc : ∀ {ms : List (Nat × Nat)} {s e f : Nat}, Sound s e ms → e ≤ f → Sound s f (ms ++ [(e, f)])
  | [], s, e, f, h, k => ⟨h, k, Nat.le_refl _⟩
  | m :: ms, s, e, f, h, k => ⟨h.1, h.2.1, h.2.2.snoc k⟩
theorem Sound.less {ms : List (Nat × Nat)} {s s' e : Nat} (h : Sound s e ms) (hs : s' ≤ s) : Sound s' e ms := by
  cases ms with
  | nil => exact Nat.le_trans hs h
  | cons m ms => exact ⟨Nat.le_trans hs h.1, h.2⟩
theorem rounds_snoc (ms : List (Nat × Nat)) (m : Nat × Nat) : rounds (ms ++ [m]) = rounds ms + (m.2 - m.1 + 1) := by
  induction ms with
  | nil => simp [rounds]
  | cons a ms ih => simp only [List.cons_append, rounds, ih]; omega
/-- more of the timeline -/
theorem pres_more {α : Type} (l : List α) : ∀ (ms : List (Nat × Nat)) (s e f : Nat), Sound s e ms → e ≤ f → pres (l.take f) s ms = pres (l.take e) s ms ++ (l.take f).drop e
  | [], s, e, f, h, k => by
    have h' : s ≤ e := h
    show (l.take f).drop s = (l.take e).drop s ++ (l.take f).drop e
    have h1 : l.take e = (l.take f).take e := by rw [List.take_take, Nat.min_eq_left k]
    have h2 : (l.take f).drop e = ((l.take f).drop s).drop (e - s) := by rw [List.drop_drop]; congr 1; omega
    have h3 : (l.take e).drop s = ((l.take f).drop s).take (e - s) := by rw [h1, List.drop_take]
    rw [h2, h3, List.take_append_drop]
  | m :: ms, s, e, f, h, k => by
    have hm : m.1 ≤ e := by have := Sound.le h.2.2; have := h.2.1; omega
    show ((l.take f).take m.1).drop s ++ pres (l.take f) m.2 ms = (((l.take e).take m.1).drop s ++ pres (l.take e) m.2 ms) ++ (l.take f).drop e
    rw [pres_more l ms m.2 e f h.2.2 k, List.take_take, List.take_take, Nat.min_eq_left (by omega), Nat.min_eq_left hm, List.append_assoc]
/-- an interval more at the end -/
theorem pres_snoc {α : Type} (l : List α) : ∀ (ms : List (Nat × Nat)) (s e f g : Nat), Sound s e ms → e ≤ f → f ≤ g → pres (l.take g) s (ms ++ [(e, f)]) = pres (l.take e) s ms ++ (l.take g).drop f
  | [], s, e, f, g, h, k, k2 => by
    show ((l.take g).take e).drop s ++ (l.take g).drop f = (l.take e).drop s ++ (l.take g).drop f
    rw [List.take_take, Nat.min_eq_left (by omega)]
  | m :: ms, s, e, f, g, h, k, k2 => by
    have hm : m.1 ≤ e := by have := Sound.le h.2.2; have := h.2.1; omega
    show ((l.take g).take m.1).drop s ++ pres (l.take g) m.2 (ms ++ [(e, f)]) = (((l.take e).take m.1).drop s ++ pres (l.take e) m.2 ms) ++ (l.take g).drop f
    rw [pres_snoc l ms m.2 e f g h.2.2 k k2, List.take_take, List.take_take, Nat.min_eq_left (by omega), Nat.min_eq_left hm, List.append_assoc]
theorem gaps_snoc {α : Type} (l : List α) (hle : ∀ e, e ≤ l.length → True) : ∀ (ms : List (Nat × Nat)) (s n e f : Nat), Sound s e ms → e ≤ l.length → gapsOf s n (ms ++ [(e, f)]) = gapsOf s n ms ++ [(((n + (pres (l.take e) s ms).length : Nat) : Int), (f : Int))]
  | [], s, n, e, f, h, k => by
    have h' : s ≤ e := h
    show [(((n + (e - s) : Nat) : Int), (f : Int))] = [(((n + ((l.take e).drop s).length : Nat) : Int), (f : Int))]
    rw [List.length_drop, List.length_take, Nat.min_eq_left k]
  | m :: ms, s, n, e, f, h, k => by
    have hm : m.1 ≤ e := by have := Sound.le h.2.2; have := h.2.1; omega
    show (((n + (m.1 - s) : Nat) : Int), (m.2 : Int)) :: gapsOf m.2 (n + (m.1 - s)) (ms ++ [(e, f)]) = ((((n + (m.1 - s) : Nat) : Int), (m.2 : Int)) :: gapsOf m.2 (n + (m.1 - s)) ms) ++ [(((n + (((l.take e).take m.1).drop s ++ pres (l.take e) m.2 ms).length : Nat) : Int), (f : Int))]
    rw [gaps_snoc l hle ms m.2 (n + (m.1 - s)) e f h.2.2 k, List.length_append, List.length_drop, List.take_take, Nat.min_eq_left hm, List.length_take, Nat.min_eq_left (by omega), Nat.add_assoc]
    rfl
theorem pres_sub {α : Type} (l : List α) : ∀ (ms : List (Nat × Nat)) (s e : Nat), Sound s e ms → (pres l s ms).Sublist (l.drop s)
  | [], s, e, h => List.Sublist.refl _
  | m :: ms, s, e, h => by
    have h1 := pres_sub l ms m.2 e h.2.2
    have h2 : l.drop s = (l.take m.1).drop s ++ l.drop m.1 := by
      have h3 : (l.take m.1 ++ l.drop m.1).drop s = (l.take m.1).drop s ++ l.drop m.1 := by
        rw [List.drop_append]
        by_cases hl : m.1 ≤ l.length
        · have h5 : s - (l.take m.1).length = 0 := by rw [List.length_take]; have := h.1; omega
          rw [h5, List.drop_zero]
        · rw [List.drop_eq_nil_of_le (show l.length ≤ m.1 by omega)]; simp
      rwa [List.take_append_drop] at h3
    rw [h2]
    show ((l.take m.1).drop s ++ pres l m.2 ms).Sublist _
    refine List.Sublist.append_left (h1.trans ?_) _
    have h4 : l.drop m.2 = (l.drop m.1).drop (m.2 - m.1) := by rw [List.drop_drop]; congr 1; have := h.2.1; omega
    rw [h4]
    exact List.drop_sublist _ _
/-- from a later number on -/
theorem pres_from {α : Type} (l : List α) (ms : List (Nat × Nat)) (s t e : Nat) (h : Sound t e ms) (hs : s ≤ t) : pres l s ms = (l.take t).drop s ++ pres l t ms := by
  have key : ∀ k, t ≤ k → (l.take k).drop s = (l.take t).drop s ++ (l.take k).drop t := fun k hk => by
    have := pres_more l [] s t k hs hk
    exact this
  cases ms with
  | nil =>
    show l.drop s = (l.take t).drop s ++ l.drop t
    by_cases hl : t ≤ l.length
    · have := key l.length hl
      rwa [List.take_length] at this
    · rw [List.take_of_length_le (by omega), List.drop_eq_nil_of_le (i := t) (by omega), List.append_nil]
  | cons m ms =>
    show (l.take m.1).drop s ++ pres l m.2 ms = (l.take t).drop s ++ ((l.take m.1).drop t ++ pres l m.2 ms)
    rw [key m.1 h.1, List.append_assoc]
theorem shiftG_of (ms : List (Nat × Nat)) : ∀ (s n k : Nat), shiftG k (gapsOf s n ms) = gapsOf s (n + k) ms := by
  induction ms with
  | nil => intro s n k; rfl
  | cons m ms ih =>
    intro s n k
    have := ih m.2 (n + (m.1 - s)) k
    unfold shiftG at this ⊢
    show ((((n + (m.1 - s) : Nat) : Int) + (k : Int)), (m.2 : Int)) :: (gapsOf m.2 (n + (m.1 - s)) ms).map _ = _
    rw [this]
    show _ = (((n + k + (m.1 - s) : Nat) : Int), (m.2 : Int)) :: gapsOf m.2 (n + k + (m.1 - s)) ms
    rw [show n + (m.1 - s) + k = n + k + (m.1 - s) by omega]
    congr 2
    omega
theorem gaps_from (ms : List (Nat × Nat)) (s t n e : Nat) (h : Sound t e ms) (hs : s ≤ t) : gapsOf s n ms = gapsOf t (n + (t - s)) ms := by
  cases ms with
  | nil => rfl
  | cons m ms =>
    have := h.1
    show (((n + (m.1 - s) : Nat) : Int), (m.2 : Int)) :: gapsOf m.2 (n + (m.1 - s)) ms = (((n + (t - s) + (m.1 - t) : Nat) : Int), (m.2 : Int)) :: gapsOf m.2 (n + (t - s) + (m.1 - t)) ms
    rw [show n + (t - s) + (m.1 - t) = n + (m.1 - s) by omega]

/-! ### Events with different ids -/
theorem freshL_whole : ∀ (l : List Ev) (known : List Int), (known ++ ids l).Nodup → freshL known l = l
  | [], _, _ => rfl
  | e :: l, known, h => by
    have hn : e.id ∉ known := by
      have := List.nodup_append.1 h
      exact fun hk => this.2.2 _ hk e.id (by simp [ids]) rfl
    unfold freshL
    rw [if_neg hn, freshL_whole l (known ++ [e.id]) (by simpa [ids] using h)]
theorem ids_sub {a b : List Ev} (h : a.Sublist b) : (ids a).Sublist (ids b) := h.map _
theorem metL_none {l : List Ev} {known : List Int} (h : ∀ e ∈ l, e.id ∉ known) : metL known l = false := by
  unfold metL
  rw [List.any_eq_false]
  intro e he
  simpa using h e he
theorem behindN_tail (known : List Int) (a : List Ev) (h : ∀ e ∈ a, e.id ∈ known) : ∀ k, ∀ b : List Ev, b.length = k → (∀ e ∈ b, e.id ∉ known) → behindN known (a ++ b) = a.length
  | 0, b, hb, _ => by
    rw [List.eq_nil_of_length_eq_zero hb, List.append_nil]
    rcases List.eq_nil_or_concat a with rfl | ⟨a', x, rfl⟩
    · rfl
    · rw [List.concat_eq_append] at h ⊢
      rw [behindN_snoc, if_pos (h x (by simp))]; simp
  | k + 1, b, hb, h2 => by
    rcases List.eq_nil_or_concat b with rfl | ⟨b', x, rfl⟩
    · simp at hb
    · rw [List.concat_eq_append] at h2 hb ⊢
      rw [← List.append_assoc, behindN_snoc, if_neg (h2 x (by simp))]
      exact behindN_tail known a h k b' (by simpa using hb) fun e he => h2 e (by simp [he])
theorem behindN_head (a b : List Ev) (known : List Int) (h : ∀ e ∈ a, e.id ∈ known) (h2 : ∀ e ∈ b, e.id ∉ known) : behindN known (a ++ b) = a.length := behindN_tail known a h _ b rfl h2

/-! ### A part -/
def partP (l : List Ev) (pos f e : Nat) : Pt := { room := roomS, member := 3, anew := false, timeline := (l.take e).drop f, limited := decide (pos < f), back := (f : Int), state := [], gone := [] }
structure Conv (l : List Ev) (pos : Nat) (ms : List (Nat × Nat)) (V : Vw) : Prop where
  events : V.events = pres (l.take pos) 0 ms
  gaps : V.gaps = gapsOf 0 0 ms
  state : V.state = []
  sound : Sound 0 pos ms
  room : V.room = ⟨#[]⟩ ∨ V.room = roomS
  right : checkV V = 0
  few : rounds ms ≤ 2 * pos
theorem stripL_nil (l : List Ev) : stripL [] l = l := by
  unfold stripL
  simp
theorem Conv.start (l : List Ev) : Conv l 0 [] zeroVw := ⟨by simp [zeroVw, pres], rfl, rfl, Nat.le_refl _, .inl rfl, by decide +kernel, Nat.zero_le _⟩
theorem take_split {α : Type} (l : List α) {a b : Nat} (h : a ≤ b) : l.take b = l.take a ++ (l.take b).drop a := by
  have : (l.take b).take a = l.take a := by rw [List.take_take, Nat.min_eq_left h]
  rw [← this, List.take_append_drop]
theorem Conv.part {l : List Ev} {pos f e : Nat} {ms : List (Nat × Nat)} {V : Vw} (h : Conv l pos ms V) (hn : (ids l).Nodup) (h1 : pos ≤ f) (h2 : f ≤ e) (h3 : e ≤ l.length) (h4 : pos < f → f < e) :
    Conv l e (if pos < f then ms ++ [(pos, f)] else ms) (applyV V (partP l pos f e)) := by
  have hgo := applyV_go (V := V) (p := partP l pos f e) h.room
  have hrm : roomV V (partP l pos f e) = { V with room := roomS, member := 3 } := rfl
  have hsub : (pres (l.take pos) 0 ms ++ (l.take e).drop f).Sublist l := by
    have q1 := pres_sub (l.take pos) ms 0 pos h.sound
    rw [List.drop_zero] at q1
    have q2 : ((l.take e).drop f).Sublist ((l.take e).drop pos) := by
      have : (l.take e).drop f = ((l.take e).drop pos).drop (f - pos) := by rw [List.drop_drop]; congr 1; omega
      rw [this]; exact List.drop_sublist _ _
    have q3 := List.Sublist.append q1 q2
    rw [← take_split l (by omega : pos ≤ e)] at q3
    exact q3.trans (List.take_sublist _ _)
  have hnd : (ids V.events ++ ids ((l.take e).drop f)).Nodup := by
    rw [h.events, ← ids_append]
    exact hn.sublist (ids_sub hsub)
  have hfr : freshL (ids V.events) ((l.take e).drop f) = (l.take e).drop f := freshL_whole _ _ hnd
  have hme : metL (ids V.events) ((l.take e).drop f) = false := metL_none fun x hx hk => (List.nodup_append.1 hnd).2.2 x.id hk x.id (List.mem_map.2 ⟨x, hx, rfl⟩) rfl
  have hlen : ((l.take e).drop f).length = e - f := by rw [List.length_drop, List.length_take, Nat.min_eq_left h3]
  have hgb : gapB { V with room := roomS, member := 3 } (partP l pos f e) = decide (pos < f) := by
    have hgb0 : gapB { V with room := roomS, member := 3 } (partP l pos f e) = (((decide (pos < f)) && decide (0 < (freshL (ids V.events) ((l.take e).drop f)).length)) && !metL (ids V.events) ((l.take e).drop f)) := rfl
    rw [hgb0, hfr, hme, hlen]
    by_cases hpf : pos < f
    · have := h4 hpf
      simp [hpf]; omega
    · simp [hpf]
  have hev : (applyV V (partP l pos f e)).events = V.events ++ (l.take e).drop f := by
    rw [hgo, hrm]
    show stripL [] (V.events ++ freshL (ids V.events) ((l.take e).drop f)) = _
    rw [stripL_nil, hfr]
  have hga : (applyV V (partP l pos f e)).gaps = if pos < f then V.gaps ++ [((V.events.length : Int), (f : Int))] else V.gaps := by
    rw [hgo, hrm]
    show gapG { V with room := roomS, member := 3 } (partP l pos f e) = _
    unfold gapG
    rw [hgb]
    by_cases hpf : pos < f
    · rw [decide_eq_true hpf]; simp only [if_true, if_pos hpf]; rfl
    · rw [decide_eq_false hpf]; simp only [if_neg hpf]; rfl
  have hst : (applyV V (partP l pos f e)).state = [] := by
    rw [hgo, hrm]
    show stripL [] (((partP l pos f e).state.take (partP l pos f e).state.length).foldl setL V.state) = []
    rw [h.state]; rfl
  have hro : (applyV V (partP l pos f e)).room = roomS := by rw [hgo, hrm]; rfl
  have hri := applyV_right h.right (partP l pos f e)
  by_cases hpf : pos < f
  · rw [if_pos hpf]
    refine ⟨?_, ?_, hst, ?_, .inr hro, hri, ?_⟩
    · rw [hev, h.events, pres_snoc l ms 0 pos f e h.sound (by omega) h2]
    · rw [hga, if_pos hpf, gaps_snoc l (fun _ _ => trivial) ms 0 0 pos f h.sound (by omega), h.gaps, h.events, Nat.zero_add]
    · exact (h.sound.snoc (by omega)).more h2
    · rw [rounds_snoc]; have := h.few; have := h4 hpf; simp only; omega
  · rw [if_neg hpf]
    have hfp : f = pos := by omega
    subst hfp
    refine ⟨?_, ?_, hst, h.sound.more h2, .inr hro, hri, by have := h.few; omega⟩
    · rw [hev, h.events, pres_more l ms 0 f e h.sound h2]
    · rw [hga, if_neg hpf, h.gaps]

/-! ### A page -/
structure Conv2 (l : List Ev) (ms : List (Nat × Nat)) (V : Vw) : Prop where
  events : V.events = pres l 0 ms
  gaps : V.gaps = gapsOf 0 0 ms
  sound : Sound 0 l.length ms
  right : checkV V = 0
theorem Conv.whole {l : List Ev} {ms : List (Nat × Nat)} {V : Vw} (h : Conv l l.length ms V) : Conv2 l ms V := ⟨by rw [h.events, List.take_length], h.gaps, h.sound, h.right⟩
theorem Conv2.done {l : List Ev} {V : Vw} (h : Conv2 l [] V) : V.events = l ∧ V.gaps = [] := ⟨by rw [h.events]; simp [pres], h.gaps⟩
theorem Conv2.page {l : List Ev} {m : Nat × Nat} {ms : List (Nat × Nat)} {V : Vw} (h : Conv2 l (m :: ms) V) (hn : (ids l).Nodup) {f : Nat} (hf : f ≤ m.2) (hf2 : f < m.2 ∨ f = 0) :
    fillE V 0 = 0 ∧ ∃ ms2, Conv2 l ms2 (fillV V 0 ((l.take m.2).drop f) (f : Int) (decide (0 < f))) ∧ rounds ms2 < rounds (m :: ms) := by
  obtain ⟨lo, hi⟩ := m
  obtain ⟨_, s2, s3⟩ := h.sound
  simp only at hf hf2 s2 s3
  have hil : hi ≤ l.length := s3.le
  have hev : V.events = l.take lo ++ pres l hi ms := by have := h.events; simpa [pres] using this
  have hga : V.gaps = ((lo : Int), (hi : Int)) :: gapsOf hi lo ms := by have := h.gaps; simpa [gapsOf] using this
  have hE : fillE V 0 = 0 := by unfold fillE outV; rw [hga]; simp <;> omega
  refine ⟨hE, ?_⟩
  have hfv : fillV V 0 ((l.take hi).drop f) (f : Int) (decide (0 < f)) = fillAt V 0 ((lo : Int), (hi : Int)) ((l.take hi).drop f) (f : Int) (decide (0 < f)) := by
    unfold fillV
    rw [if_neg (by unfold outV; rw [hga]; simp <;> omega)]
    have : V.gaps[(0 : Int).toNat]? = some ((lo : Int), (hi : Int)) := by rw [hga]; rfl
    rw [this]; rfl
  have hri := fillV_right (i := 0) (back := (f : Int)) (l := (l.take hi).drop f) (more := decide (0 < f)) h.right hE
  rw [hfv] at hri ⊢
  have hAl : (l.take lo).length = lo := by rw [List.length_take, Nat.min_eq_left (by omega)]
  have ht : V.events.take lo = l.take lo := by rw [hev, List.take_append_of_le_length (by omega), List.take_of_length_le (by omega)]
  have hd : V.events.drop lo = pres l hi ms := by rw [hev, List.drop_append_of_le_length (by omega), List.drop_of_length_le (by omega), List.nil_append]
  -- what is missing is not known
  have hlsplit : l = l.take lo ++ ((l.take hi).drop lo ++ l.drop hi) := by
    rw [← List.append_assoc, ← take_split l s2, List.take_append_drop]
  have hnd := hn
  rw [hlsplit, ids_append, ids_append] at hnd
  have hno : ∀ x ∈ (l.take hi).drop lo, x.id ∉ ids V.events := fun x hx hk => by
    have hxi : x.id ∈ ids ((l.take hi).drop lo) := List.mem_map.2 ⟨x, hx, rfl⟩
    obtain ⟨q1, q2, q3⟩ := List.nodup_append.1 hnd
    obtain ⟨q4, q5, q6⟩ := List.nodup_append.1 q2
    rw [hev, ids_append] at hk
    rcases List.mem_append.1 hk with hk | hk
    · exact q3 _ hk x.id (List.mem_append_left _ hxi) rfl
    · exact q6 _ hxi x.id ((ids_sub (pres_sub l ms hi _ s3)).subset hk) rfl
  have hnB : (ids ((l.take hi).drop lo)).Nodup := (List.nodup_append.1 (List.nodup_append.1 hnd).2.1).1
  have hnV : (ids V.events).Nodup := (checkV_inv h.right).1
  have hfresh : ∀ g, lo ≤ g → freshL (ids V.events) ((l.take hi).drop g) = (l.take hi).drop g := fun g hg => by
    apply freshL_whole
    have hs : ((l.take hi).drop g).Sublist ((l.take hi).drop lo) := by
      have : (l.take hi).drop g = ((l.take hi).drop lo).drop (g - lo) := by rw [List.drop_drop]; congr 1; omega
      rw [this]; exact List.drop_sublist _ _
    rw [List.nodup_append]
    refine ⟨hnV, hnB.sublist (ids_sub hs), fun a ha b hb e => ?_⟩
    subst e
    obtain ⟨x, hx, rfl⟩ := List.mem_map.1 hb
    exact hno x (hs.subset hx) ha
  have hnoP : ∀ g, lo ≤ g → ∀ x ∈ (l.take hi).drop g, x.id ∉ ids V.events := fun g hg x hx => hno x (by
    have : (l.take hi).drop g = ((l.take hi).drop lo).drop (g - lo) := by rw [List.drop_drop]; congr 1; omega
    rw [this] at hx; exact List.mem_of_mem_drop hx)
  have hBl : ∀ g, g ≤ hi → ((l.take hi).drop g).length = hi - g := fun g hg => by rw [List.length_drop, List.length_take, Nat.min_eq_left hil]
  by_cases hfl : f < lo
  · -- the page begins among known events
    have hpg : (l.take hi).drop f = (l.take lo).drop f ++ (l.take hi).drop lo := by
      have := take_split l s2
      conv => lhs; rw [this]
      rw [List.drop_append_of_le_length (by omega)]
    have hkn : ∀ x ∈ (l.take lo).drop f, x.id ∈ ids V.events := fun x hx => by
      rw [hev, ids_append]
      exact List.mem_append_left _ (List.mem_map.2 ⟨x, List.mem_of_mem_drop hx, rfl⟩)
    have hbh : behindN (ids V.events) ((l.take hi).drop f) = ((l.take lo).drop f).length := by rw [hpg]; exact behindN_head _ _ _ hkn hno
    have hadd : addL V ((l.take hi).drop f) = (l.take hi).drop lo := by
      unfold addL
      rw [hbh]
      conv => lhs; rw [hpg]
      rw [List.drop_append_of_le_length (Nat.le_refl _), List.drop_length, List.nil_append, hfresh lo (Nat.le_refl _)]
    have hmet : metL (ids V.events) ((l.take hi).drop f) = true := by
      rw [behindN_met, hbh]
      apply decide_eq_true
      rw [List.length_drop, hAl]; omega
    refine ⟨ms, ⟨?_, ?_, s3.less (Nat.zero_le _), hri⟩, by simp only [rounds]; omega⟩
    · show V.events.take ((lo : Int)).toNat ++ (addL V ((l.take hi).drop f) ++ V.events.drop ((lo : Int)).toNat) = _
      rw [Int.toNat_natCast, ht, hd, hadd, pres_from l ms 0 hi _ s3 (Nat.zero_le _), List.drop_zero, ← List.append_assoc, ← take_split l s2]
    · show fillG V 0 (lo : Int) ((l.take hi).drop f) (f : Int) (decide (0 < f)) ++ shiftG (addL V ((l.take hi).drop f)).length (V.gaps.drop 1) = _
      have hg0 : fillG V 0 (lo : Int) ((l.take hi).drop f) (f : Int) (decide (0 < f)) = [] := by unfold fillG; rw [hmet]; simp
      rw [hg0, hadd, hBl lo s2, hga, List.nil_append, List.drop_succ_cons, List.drop_zero, shiftG_of, gaps_from ms 0 hi 0 _ s3 (Nat.zero_le _)]
      congr 1; omega
  · have hlf : lo ≤ f := by omega
    have hbh : behindN (ids V.events) ((l.take hi).drop f) = 0 := by
      have := behindN_head [] ((l.take hi).drop f) (ids V.events) (by simp) (hnoP f hlf)
      simpa using this
    have hadd : addL V ((l.take hi).drop f) = (l.take hi).drop f := by
      unfold addL
      rw [hbh, List.drop_zero, hfresh f hlf]
    have hmet : metL (ids V.events) ((l.take hi).drop f) = false := metL_none (hnoP f hlf)
    by_cases hf0 : f = 0
    · subst hf0
      have hlo : lo = 0 := by omega
      subst hlo
      refine ⟨ms, ⟨?_, ?_, s3.less (Nat.zero_le _), hri⟩, by simp only [rounds]; omega⟩
      · show V.events.take ((0 : Nat) : Int).toNat ++ (addL V ((l.take hi).drop 0) ++ V.events.drop ((0 : Nat) : Int).toNat) = _
        rw [Int.toNat_natCast, hd, hadd, List.take_zero, List.nil_append, pres_from l ms 0 hi _ s3 (Nat.zero_le _)]
      · show fillG V 0 ((0 : Nat) : Int) ((l.take hi).drop 0) ((0 : Nat) : Int) (decide (0 < 0)) ++ shiftG (addL V ((l.take hi).drop 0)).length (V.gaps.drop 1) = _
        have hg0 : fillG V 0 ((0 : Nat) : Int) ((l.take hi).drop 0) ((0 : Nat) : Int) (decide (0 < 0)) = [] := by unfold fillG; simp
        rw [hg0, hadd, hBl 0 (Nat.zero_le _), hga, List.nil_append, List.drop_succ_cons, List.drop_zero, shiftG_of, gaps_from ms 0 hi 0 _ s3 (Nat.zero_le _)]
    · have hfh : f < hi := by omega
      refine ⟨(lo, f) :: ms, ⟨?_, ?_, ⟨Nat.zero_le _, hlf, s3.less hf⟩, hri⟩, by simp only [rounds]; omega⟩
      · show V.events.take ((lo : Int)).toNat ++ (addL V ((l.take hi).drop f) ++ V.events.drop ((lo : Int)).toNat) = (l.take lo).drop 0 ++ pres l f ms
        rw [Int.toNat_natCast, ht, hd, hadd, pres_from l ms f hi _ s3 hf, List.drop_zero]
      · show fillG V 0 (lo : Int) ((l.take hi).drop f) (f : Int) (decide (0 < f)) ++ shiftG (addL V ((l.take hi).drop f)).length (V.gaps.drop 1) = (((0 + (lo - 0) : Nat) : Int), (f : Int)) :: gapsOf f (0 + (lo - 0)) ms
        have hg0 : fillG V 0 (lo : Int) ((l.take hi).drop f) (f : Int) (decide (0 < f)) = [((lo : Int), (f : Int))] := by unfold fillG; rw [hmet, decide_eq_true (by omega : 0 < f)]; rfl
        rw [hg0, hadd, hBl f hf, hga, List.drop_succ_cons, List.drop_zero, shiftG_of, gaps_from ms f hi _ _ s3 hf]
        simp
end Go.Proofs.Ytbehflldghhopaa

/-
  The arguments' readings of events and views, opened. No condition.
  The readings of levels, contents, events and lists of events. No condition.
-/
import Derived.Test.YtmlnmcoophnlaaaGreatLift
import Derived.Test.YtmlnmcoophnlaaaGreatEv
set_option linter.unusedVariables false
set_option linter.unusedSimpArgs false
namespace Go.Proofs.YtmlnmcoophnlaaaGreat
section
open Go.ChangeShapes Go.WideShapes Go.ChangeAt Go.RowKit Go.Deep

theorem mapM_get {α β : Type} {f : α → Option β} : ∀ {l : List α} {r : List β}, l.mapM f = some r → r.length = l.length ∧ ∀ i, (h : i < l.length) → f l[i] = r[i]?
  | [], r, h => by simp at h; subst h; exact ⟨rfl, fun i h => by simp at h⟩
  | x :: l, r, h => by
    rw [List.mapM_cons] at h
    cases hx : f x with
    | none => simp [hx] at h
    | some y =>
      cases hl : l.mapM f with
      | none => simp [hx, hl] at h
      | some ys =>
        simp [hx, hl] at h
        subst h
        obtain ⟨h1, h2⟩ := mapM_get hl
        refine ⟨by simp [h1], fun i hi => ?_⟩
        cases i with
        | zero => simpa using hx
        | succ i => simpa using h2 i (by simpa using hi)
theorem cells_get {w : World} {base n : Nat} {a : Addr} {cs : List Value} (h : w.cells? base a n = some cs) : cs.length = n ∧ ∀ j, j < n → w.cell? (a.add j) = cs[j]? := by
  unfold World.cells? at h
  split at h
  · obtain ⟨h1, h2⟩ := mapM_get h
    refine ⟨by simpa using h1, fun j hj => ?_⟩
    have := h2 j (by simpa using hj)
    simpa using this
  · cases h
section
variable {H : Type} {enc : TypeId × Value → H} {P : Program} {W : World} {base : Nat} {spare : Nat → Bool} {held : Bool}
/-- the cells of each element, as many as are told -/
theorem pick_cells {k : Nat} (f : Nat → Option (List Value)) : ∀ n, (∀ i, i < n → ∃ cs, f i = some cs ∧ cs.length = k) → ∃ css : List (List Value), css.length = n ∧ (∀ c ∈ css, c.length = k) ∧ ∀ i, i < n → f i = css[i]?
  | 0, _ => ⟨[], rfl, by simp, fun i h => by omega⟩
  | n + 1, h => by
    obtain ⟨css, h1, h2, h3⟩ := pick_cells f n fun i hi => h i (by omega)
    obtain ⟨cs, h4, h5⟩ := h n (by omega)
    refine ⟨css ++ [cs], by simp [h1], fun c hc => ?_, fun i hi => ?_⟩
    · rcases List.mem_append.1 hc with hc | hc
      · exact h2 c hc
      · rw [List.mem_singleton] at hc; rw [hc]; exact h5
    · by_cases hin : i < n
      · rw [List.getElem?_append_left (by omega)]; exact h3 i hin
      · obtain rfl : i = n := by omega
        rw [h4, List.getElem?_append_right (by omega), h1, Nat.sub_self]; rfl
/-- a slice of elements of k cells -/
theorem read_slice {t e : TypeId} {k fuel : Nat} {A : Option Addr} {n c : Nat} {x : DataW H × List MemPlace} (ht : P.underlying t = some (.slice e)) (hC : P.cellsOf e = k) (hk : 0 < k)
    (h : DataW.trod enc P W base spare held fuel t [.slice A n c] = some x) :
    ∃ css : List (List Value), css.length = n ∧ (∀ cs ∈ css, cs.length = k ∧ ∃ m y, DataW.trod enc P W base spare held m e cs = some y) ∧ Row W W.heap.size A css.flatten ∧ n ≤ c ∧ c ≤ maxLen ∧ (A = none → n = 0) := by
  rcases DataW.trod_slice ht h with ⟨hcs, _⟩ | ⟨a, len, cap, elems, rest, m, _, hcs, _, _, hl, hm, hz, hel, _⟩
  · simp only [List.cons.injEq, Value.slice.injEq, and_true] at hcs
    obtain ⟨rfl, rfl, rfl⟩ := hcs
    exact ⟨[], rfl, by simp, Row.nil, Nat.le_refl _, Nat.zero_le _, fun _ => rfl⟩
  · simp only [List.cons.injEq, Value.slice.injEq, and_true] at hcs
    obtain ⟨rfl, rfl, rfl⟩ := hcs
    rw [hC] at hel
    have hex : ∀ i, i < n → ∃ cs y, W.cells? base (a.add (i * k)) k = some cs ∧ DataW.trod enc P W base spare held m e cs = some y := fun i hi => by
      have h1 := hel i hi
      rw [List.getElem?_eq_getElem (by omega)] at h1
      cases hq : W.cells? base (a.add (i * k)) k with
      | none => rw [hq] at h1; cases h1
      | some cs => rw [hq] at h1; exact ⟨cs, _, rfl, h1⟩
    obtain ⟨css, h1, h2, h3⟩ := pick_cells (k := k) (fun i => W.cells? base (a.add (i * k)) k) n fun i hi => by
      obtain ⟨cs, y, h4, _⟩ := hex i hi
      exact ⟨cs, h4, (cells_get h4).1⟩
    refine ⟨css, h1, fun cs hcs => ⟨h2 cs hcs, ?_⟩, row_of fun j hj => ?_, hl, hm, fun h => by cases h⟩
    · obtain ⟨i, hi, rfl⟩ := List.getElem_of_mem hcs
      obtain ⟨cs', y, h4, h5⟩ := hex i (by omega)
      have := h3 i (by omega)
      rw [h4, List.getElem?_eq_getElem hi] at this
      injection this with this
      subst this
      exact ⟨m, y, h5⟩
    · rw [flat_length h2, h1] at hj
      have hd : j / k < n := Nat.div_lt_of_lt_mul (by rw [Nat.mul_comm]; exact hj)
      have hm' : j % k < k := Nat.mod_lt _ hk
      have hj' : j = j / k * k + j % k := by rw [Nat.mul_comm]; exact (Nat.div_add_mod j k).symm
      have h6 := h3 (j / k) hd
      rw [List.getElem?_eq_getElem (by omega)] at h6
      have h7 := (cells_get h6).2 (j % k) hm'
      rw [add_of_add] at h7
      rw [hj', h7, flat_get h2 (j / k) (by omega) (j % k) hm']
/-- a field -/
theorem read_field {fs : Array Field} {n : Nat} {cs : List Value} {xs : List (DataW H × List MemPlace)} (hl : xs.length = fs.size)
    (h : ∀ (i : Nat) (f : Field), fs[i]? = some f → DataW.trod enc P W base spare held n f.type ((cs.drop f.offset).take (P.cellsOf f.type)) = xs[i]?) (i : Nat) (f : Field) (hi : fs[i]? = some f) (k : Nat) (hk : P.cellsOf f.type = k) :
    ∃ y, DataW.trod enc P W base spare held n f.type ((cs.drop f.offset).take k) = some y := by
  have h1 := h i f hi
  rw [hk] at h1
  have hs : i < xs.length := by rw [hl]; exact (Array.getElem?_eq_some_iff.1 hi).1
  rw [List.getElem?_eq_getElem hs] at h1
  exact ⟨_, h1⟩
end
end

section
open Go.ChangeShapes Go.WideShapes Go.ChangeAt Go.RowKit Go.Deep

theorem cI : Tryz.prog.cellsOf 3 = 1 := by kernel_rfl
theorem cS : Tryz.prog.cellsOf 9 = 1 := by kernel_rfl
theorem cB : Tryz.prog.cellsOf 4 = 1 := by kernel_rfl
theorem cK : Tryz.prog.cellsOf 23 = 1 := by kernel_rfl
theorem cIs : Tryz.prog.cellsOf 24 = 1 := by kernel_rfl
theorem cTs : Tryz.prog.cellsOf 25 = 1 := by kernel_rfl
theorem cUs : Tryz.prog.cellsOf 26 = 1 := by kernel_rfl
theorem cKs : Tryz.prog.cellsOf 27 = 1 := by kernel_rfl
theorem cU : Tryz.prog.cellsOf 58 = 2 := by kernel_rfl
theorem cKL : Tryz.prog.cellsOf 82 = 2 := by kernel_rfl
theorem cL : Tryz.prog.cellsOf 29 = 9 := by kernel_rfl
theorem cC : Tryz.prog.cellsOf 31 = 16 := by kernel_rfl
theorem cG : Tryz.prog.cellsOf 33 = 2 := by kernel_rfl
theorem cE : Tryz.prog.cellsOf 35 = 29 := by kernel_rfl

/-- what a reading says of the values beside their cells -/
def Lev.ok (l : Lev) : Prop := (∀ u ∈ l.users, u.1.size ≤ maxLen ∧ I64 u.2) ∧ (∀ u ∈ l.kinds, I64 u.1 ∧ I64 u.2) ∧ I64 l.user ∧ I64 l.message ∧ I64 l.state ∧ I64 l.invite ∧ I64 l.kick ∧ I64 l.ban ∧ I64 l.redact
def Con.ok (c : Con) : Prop := c.text.size ≤ maxLen ∧ I64 c.n ∧ I64 c.target ∧ c.via.size ≤ maxLen ∧ (∀ s ∈ c.allow, s.size ≤ maxLen) ∧ (∀ s ∈ c.deny, s.size ≤ maxLen) ∧ c.lv.ok
def Ev.ok (e : Ev) : Prop := I64 e.id ∧ e.room.size ≤ maxLen ∧ e.sender.size ≤ maxLen ∧ I64 e.kind ∧ e.key.size ≤ maxLen ∧ I64 e.time ∧ I64 e.depth ∧ (∀ n ∈ e.prev, I64 n) ∧ (∀ n ∈ e.auth, I64 n) ∧ e.con.ok ∧ I64 e.hash ∧ e.server.size ≤ maxLen ∧ I64 e.sum
theorem told_of {α : Type} {R : List Value → α → Prop} : ∀ {css : List (List Value)}, (∀ c ∈ css, ∃ x, R c x) → ∃ l, Told R css l
  | [], _ => ⟨[], trivial⟩
  | c :: css, h => by
    obtain ⟨x, hx⟩ := h c (by simp)
    obtain ⟨l, hl⟩ := told_of (css := css) fun d hd => h d (by simp [hd])
    exact ⟨x :: l, hx, hl⟩
theorem told_mem {α : Type} {R : List Value → α → Prop} {p : α → Prop} (h : ∀ c x, R c x → p x) : ∀ {css : List (List Value)} {l : List α}, Told R css l → ∀ x ∈ l, p x
  | [], [], _, x, hx => by simp at hx
  | c :: css, y :: l, ht, x, hx => by
    rcases List.mem_cons.1 hx with rfl | hx
    · exact h _ _ ht.1
    · exact told_mem h ht.2 x hx
  | [], _ :: _, ht, _, _ => ht.elim
  | _ :: _, [], ht, _, _ => ht.elim
theorem told_flat2 {α : Type} {f g : α → Value} {R : List Value → α → Prop} (h : ∀ c x, R c x → c = [f x, g x]) : ∀ {css : List (List Value)} {l : List α}, Told R css l → css.flatten = l.flatMap fun p => [f p, g p]
  | [], [], _ => rfl
  | c :: css, y :: l, ht => by
    simp only [List.flatten_cons, List.flatMap_cons]
    rw [told_flat2 h ht.2, h _ _ ht.1]
  | [], _ :: _, ht => ht.elim
  | _ :: _, [], ht => ht.elim

section
variable {H : Type} {enc : TypeId × Value → H} {W : World} {base : Nat} {spare : Nat → Bool} {held : Bool}
set_option maxRecDepth 100000 in
theorem slc_ints {fuel : Nat} {c : Value} {x : DataW H × List MemPlace} (h : DataW.trod enc Tryz.prog W base spare held fuel 24 [c] = some x) : ∃ l : List Int, Slc W Any c 1 l.length (ivs l) ∧ ∀ n ∈ l, I64 n := by
  obtain ⟨A, n, k, rfl⟩ := field_slice Tryz.underlying24 h
  obtain ⟨l, rfl, hr, hI, h1, h2⟩ := read_ints Tryz.underlying24 Tryz.underlying3 cI h
  obtain ⟨_, hcl, _, _, _, _, hn⟩ := read_slice Tryz.underlying24 cI (by decide) h
  exact ⟨l, ⟨A, k, rfl, by rw [ivs_length, Nat.mul_one], h1, h2, hn, hr, fun _ _ _ => trivial⟩, hI⟩
set_option maxRecDepth 100000 in
theorem slc_texts {fuel : Nat} {c : Value} {x : DataW H × List MemPlace} (h : DataW.trod enc Tryz.prog W base spare held fuel 25 [c] = some x) : ∃ l : List ByteArray, Slc W Any c 1 l.length (svs l) ∧ ∀ s ∈ l, s.size ≤ maxLen := by
  obtain ⟨A, n, k, rfl⟩ := field_slice Tryz.underlying25 h
  obtain ⟨l, rfl, hr, hI, h1, h2⟩ := read_strings Tryz.underlying25 Tryz.underlying9 cS h
  obtain ⟨_, hcl, _, _, _, _, hn⟩ := read_slice Tryz.underlying25 cS (by decide) h
  exact ⟨l, ⟨A, k, rfl, by rw [svs_length, Nat.mul_one], h1, h2, hn, hr, fun _ _ _ => trivial⟩, hI⟩
set_option maxRecDepth 100000 in
theorem one_user {m : Nat} {cs : List Value} {y : DataW H × List MemPlace} (hl : cs.length = 2) (h : DataW.trod enc Tryz.prog W base spare held m 58 cs = some y) : ∃ p : ByteArray × Int, cs = [.string p.1, .int .i64 p.2] ∧ p.1.size ≤ maxLen ∧ I64 p.2 := by
  obtain ⟨xs, n, _, _, _, hxl, hf⟩ := DataW.trod_struct Tryz.underlying58 h
  match cs, hl with
  | [c0, c1], _ =>
    obtain ⟨y0, t0⟩ := read_field hxl hf 0 _ rfl 1 cS
    obtain ⟨y1, t1⟩ := read_field hxl hf 1 _ rfl 1 cI
    obtain ⟨s, rfl, hs⟩ := field_string (c := c0) Tryz.underlying9 t0
    obtain ⟨i, rfl, hi⟩ := field_int (c := c1) Tryz.underlying3 t1
    exact ⟨(s, i), rfl, hs, i64_of_wf hi⟩
set_option maxRecDepth 100000 in
theorem one_kind {m : Nat} {cs : List Value} {y : DataW H × List MemPlace} (hl : cs.length = 2) (h : DataW.trod enc Tryz.prog W base spare held m 82 cs = some y) : ∃ p : Int × Int, cs = [.int .i64 p.1, .int .i64 p.2] ∧ I64 p.1 ∧ I64 p.2 := by
  obtain ⟨xs, n, _, _, _, hxl, hf⟩ := DataW.trod_struct Tryz.underlying82 h
  match cs, hl with
  | [c0, c1], _ =>
    obtain ⟨y0, t0⟩ := read_field hxl hf 0 _ rfl 1 cK
    obtain ⟨y1, t1⟩ := read_field hxl hf 1 _ rfl 1 cI
    obtain ⟨s, rfl, hs⟩ := field_int (c := c0) Tryz.underlying23 t0
    obtain ⟨i, rfl, hi⟩ := field_int (c := c1) Tryz.underlying3 t1
    exact ⟨(s, i), rfl, i64_of_wf hs, i64_of_wf hi⟩
set_option maxRecDepth 100000 in
theorem slc_users {fuel : Nat} {c : Value} {x : DataW H × List MemPlace} (h : DataW.trod enc Tryz.prog W base spare held fuel 26 [c] = some x) : ∃ l : List (ByteArray × Int), Slc W Any c 2 l.length (ucs l) ∧ ∀ u ∈ l, u.1.size ≤ maxLen ∧ I64 u.2 := by
  obtain ⟨A, n, k, rfl⟩ := field_slice Tryz.underlying26 h
  obtain ⟨css, hcl, hcs, hr, h1, h2, hn⟩ := read_slice Tryz.underlying26 cU (by decide) h
  obtain ⟨l, ht⟩ := told_of (R := fun cs (p : ByteArray × Int) => cs = [.string p.1, .int .i64 p.2] ∧ p.1.size ≤ maxLen ∧ I64 p.2) (css := css) fun cs hc => by
    obtain ⟨hl, m, y, h3⟩ := hcs cs hc
    exact one_user hl h3
  have hfl : css.flatten = ucs l := told_flat2 (f := fun p : ByteArray × Int => .string p.1) (g := fun p => .int .i64 p.2) (fun c x h => h.1) ht
  have hnl : n = l.length := by rw [← hcl, ht.length]
  subst hnl
  rw [hfl] at hr
  exact ⟨l, ⟨A, k, rfl, ucs_length l, h1, h2, hn, hr, fun _ _ _ => trivial⟩, told_mem (fun c x h => h.2) ht⟩
set_option maxRecDepth 100000 in
theorem slc_pairs {t e : TypeId} {k0 fuel : Nat} {c : Value} {x : DataW H × List MemPlace} (htt : Tryz.prog.underlying t = some (.slice e)) (hce : Tryz.prog.cellsOf e = 2)
    (hone : ∀ {m : Nat} {cs : List Value} {y : DataW H × List MemPlace}, cs.length = 2 → DataW.trod enc Tryz.prog W base spare held m e cs = some y → ∃ p : Int × Int, cs = [.int .i64 p.1, .int .i64 p.2] ∧ I64 p.1 ∧ I64 p.2)
    (h : DataW.trod enc Tryz.prog W base spare held fuel t [c] = some x) : ∃ l : List (Int × Int), Slc W Any c 2 l.length (kcs l) ∧ ∀ u ∈ l, I64 u.1 ∧ I64 u.2 := by
  obtain ⟨A, n, k, rfl⟩ := field_slice htt h
  obtain ⟨css, hcl, hcs, hr, h1, h2, hn⟩ := read_slice htt hce (by decide) h
  obtain ⟨l, ht⟩ := told_of (R := fun cs (p : Int × Int) => cs = [.int .i64 p.1, .int .i64 p.2] ∧ I64 p.1 ∧ I64 p.2) (css := css) fun cs hc => by
    obtain ⟨hl, m, y, h3⟩ := hcs cs hc
    exact hone hl h3
  have hfl : css.flatten = kcs l := told_flat2 (f := fun p : Int × Int => .int .i64 p.1) (g := fun p => .int .i64 p.2) (fun c x h => h.1) ht
  have hnl : n = l.length := by rw [← hcl, ht.length]
  subst hnl
  rw [hfl] at hr
  exact ⟨l, ⟨A, k, rfl, kcs_length l, h1, h2, hn, hr, fun _ _ _ => trivial⟩, told_mem (fun c x h => h.2) ht⟩
set_option maxRecDepth 100000 in
theorem read_lev {m : Nat} {cs : List Value} {y : DataW H × List MemPlace} (hl : cs.length = 9) (h : DataW.trod enc Tryz.prog W base spare held m 29 cs = some y) : ∃ l : Lev, LevR W Any cs l ∧ l.ok := by
  obtain ⟨xs, n, _, _, _, hxl, hf⟩ := DataW.trod_struct Tryz.underlying29 h
  obtain ⟨y0, t0⟩ := read_field hxl hf 0 _ rfl 1 cUs
  obtain ⟨y1, t1⟩ := read_field hxl hf 1 _ rfl 1 cKs
  obtain ⟨y2, t2⟩ := read_field hxl hf 2 _ rfl 1 cI
  obtain ⟨y3, t3⟩ := read_field hxl hf 3 _ rfl 1 cI
  obtain ⟨y4, t4⟩ := read_field hxl hf 4 _ rfl 1 cI
  obtain ⟨y5, t5⟩ := read_field hxl hf 5 _ rfl 1 cI
  obtain ⟨y6, t6⟩ := read_field hxl hf 6 _ rfl 1 cI
  obtain ⟨y7, t7⟩ := read_field hxl hf 7 _ rfl 1 cI
  obtain ⟨y8, t8⟩ := read_field hxl hf 8 _ rfl 1 cI
  match cs, hl with
  | [c0, c1, c2, c3, c4, c5, c6, c7, c8], _ =>
    obtain ⟨us, hu, hu2⟩ := slc_users (c := c0) t0
    obtain ⟨ks, hk, hk2⟩ := slc_pairs (k0 := 0) (c := c1) Tryz.underlying27 cKL one_kind t1
    obtain ⟨i2, rfl, w2⟩ := field_int (c := c2) Tryz.underlying3 t2
    obtain ⟨i3, rfl, w3⟩ := field_int (c := c3) Tryz.underlying3 t3
    obtain ⟨i4, rfl, w4⟩ := field_int (c := c4) Tryz.underlying3 t4
    obtain ⟨i5, rfl, w5⟩ := field_int (c := c5) Tryz.underlying3 t5
    obtain ⟨i6, rfl, w6⟩ := field_int (c := c6) Tryz.underlying3 t6
    obtain ⟨i7, rfl, w7⟩ := field_int (c := c7) Tryz.underlying3 t7
    obtain ⟨i8, rfl, w8⟩ := field_int (c := c8) Tryz.underlying3 t8
    exact ⟨{ users := us, kinds := ks, user := i2, message := i3, state := i4, invite := i5, kick := i6, ban := i7, redact := i8 }, ⟨_, _, rfl, hu, hk⟩, hu2, hk2, i64_of_wf w2, i64_of_wf w3, i64_of_wf w4, i64_of_wf w5, i64_of_wf w6, i64_of_wf w7, i64_of_wf w8⟩
set_option maxRecDepth 100000 in
theorem read_con {m : Nat} {cs : List Value} {y : DataW H × List MemPlace} (hl : cs.length = 16) (h : DataW.trod enc Tryz.prog W base spare held m 31 cs = some y) : ∃ c : Con, ConR W Any cs c ∧ c.ok := by
  obtain ⟨xs, n, _, _, _, hxl, hf⟩ := DataW.trod_struct Tryz.underlying31 h
  obtain ⟨y0, t0⟩ := read_field hxl hf 0 _ rfl 1 cS
  obtain ⟨y1, t1⟩ := read_field hxl hf 1 _ rfl 1 cI
  obtain ⟨y2, t2⟩ := read_field hxl hf 2 _ rfl 1 cI
  obtain ⟨y3, t3⟩ := read_field hxl hf 3 _ rfl 1 cB
  obtain ⟨y4, t4⟩ := read_field hxl hf 4 _ rfl 1 cS
  obtain ⟨y5, t5⟩ := read_field hxl hf 5 _ rfl 1 cTs
  obtain ⟨y6, t6⟩ := read_field hxl hf 6 _ rfl 1 cTs
  obtain ⟨y7, t7⟩ := read_field hxl hf 7 _ rfl 9 cL
  match cs, hl with
  | [c0, c1, c2, c3, c4, c5, c6, c7, c8, c9, c10, c11, c12, c13, c14, c15], _ =>
    obtain ⟨s0, rfl, w0⟩ := field_string (c := c0) Tryz.underlying9 t0
    obtain ⟨i1, rfl, w1⟩ := field_int (c := c1) Tryz.underlying3 t1
    obtain ⟨i2, rfl, w2⟩ := field_int (c := c2) Tryz.underlying3 t2
    obtain ⟨b3, rfl⟩ := field_bool (c := c3) Tryz.underlying4 t3
    obtain ⟨s4, rfl, w4⟩ := field_string (c := c4) Tryz.underlying9 t4
    obtain ⟨l5, h5, w5⟩ := slc_texts (c := c5) t5
    obtain ⟨l6, h6, w6⟩ := slc_texts (c := c6) t6
    obtain ⟨lv, ⟨vu, vk, hcs, hu, hk⟩, hok⟩ := read_lev (cs := [c7, c8, c9, c10, c11, c12, c13, c14, c15]) rfl t7
    refine ⟨{ text := s0, n := i1, target := i2, thread := b3, via := s4, allow := l5, deny := l6, lv := lv }, ⟨c5, c6, vu, vk, ?_, h5, h6, hu, hk⟩, w0, i64_of_wf w1, i64_of_wf w2, w4, w5, w6, hok⟩
    unfold conCells
    rw [← hcs]
    rfl
set_option maxRecDepth 100000 in
theorem read_ev {m : Nat} {cs : List Value} {y : DataW H × List MemPlace} (hl : cs.length = 29) (h : DataW.trod enc Tryz.prog W base spare held m 35 cs = some y) : ∃ e : Ev, EvR W Any cs e ∧ e.ok := by
  obtain ⟨xs, n, _, _, _, hxl, hf⟩ := DataW.trod_struct Tryz.underlying35 h
  obtain ⟨y0, t0⟩ := read_field hxl hf 0 _ rfl 1 cI
  obtain ⟨y1, t1⟩ := read_field hxl hf 1 _ rfl 1 cS
  obtain ⟨y2, t2⟩ := read_field hxl hf 2 _ rfl 1 cS
  obtain ⟨y3, t3⟩ := read_field hxl hf 3 _ rfl 1 cK
  obtain ⟨y4, t4⟩ := read_field hxl hf 4 _ rfl 1 cB
  obtain ⟨y5, t5⟩ := read_field hxl hf 5 _ rfl 1 cS
  obtain ⟨y6, t6⟩ := read_field hxl hf 6 _ rfl 1 cI
  obtain ⟨y7, t7⟩ := read_field hxl hf 7 _ rfl 1 cI
  obtain ⟨y8, t8⟩ := read_field hxl hf 8 _ rfl 1 cIs
  obtain ⟨y9, t9⟩ := read_field hxl hf 9 _ rfl 1 cIs
  obtain ⟨y10, t10⟩ := read_field hxl hf 10 _ rfl 16 cC
  obtain ⟨y11, t11⟩ := read_field hxl hf 11 _ rfl 1 cI
  obtain ⟨y12, t12⟩ := read_field hxl hf 12 _ rfl 2 cG
  obtain ⟨xs2, n2, _, _, _, hxl2, hf2⟩ := DataW.trod_struct Tryz.underlying33 t12
  obtain ⟨y13, t13⟩ := read_field hxl2 hf2 0 _ rfl 1 cS
  obtain ⟨y14, t14⟩ := read_field hxl2 hf2 1 _ rfl 1 cI
  match cs, hl with
  | [c0, c1, c2, c3, c4, c5, c6, c7, c8, c9, c10, c11, c12, c13, c14, c15, c16, c17, c18, c19, c20, c21, c22, c23, c24, c25, c26, c27, c28], _ =>
    obtain ⟨i0, rfl, w0⟩ := field_int (c := c0) Tryz.underlying3 t0
    obtain ⟨s1, rfl, w1⟩ := field_string (c := c1) Tryz.underlying9 t1
    obtain ⟨s2, rfl, w2⟩ := field_string (c := c2) Tryz.underlying9 t2
    obtain ⟨i3, rfl, w3⟩ := field_int (c := c3) Tryz.underlying23 t3
    obtain ⟨b4, rfl⟩ := field_bool (c := c4) Tryz.underlying4 t4
    obtain ⟨s5, rfl, w5⟩ := field_string (c := c5) Tryz.underlying9 t5
    obtain ⟨i6, rfl, w6⟩ := field_int (c := c6) Tryz.underlying3 t6
    obtain ⟨i7, rfl, w7⟩ := field_int (c := c7) Tryz.underlying3 t7
    obtain ⟨l8, h8, w8⟩ := slc_ints (c := c8) t8
    obtain ⟨l9, h9, w9⟩ := slc_ints (c := c9) t9
    obtain ⟨con, ⟨va, vd, vu, vk, hcs, ha, hd, hu, hk⟩, hok⟩ := read_con (cs := [c10, c11, c12, c13, c14, c15, c16, c17, c18, c19, c20, c21, c22, c23, c24, c25]) rfl t10
    obtain ⟨i11, rfl, w11⟩ := field_int (c := c26) Tryz.underlying3 t11
    obtain ⟨s13, rfl, w13⟩ := field_string (c := c27) Tryz.underlying9 t13
    obtain ⟨i14, rfl, w14⟩ := field_int (c := c28) Tryz.underlying3 t14
    refine ⟨{ id := i0, room := s1, sender := s2, kind := i3, state := b4, key := s5, time := i6, depth := i7, prev := l8, auth := l9, con := con, hash := i11, server := s13, sum := i14 }, ⟨c8, c9, va, vd, vu, vk, ?_, h8, h9, ha, hd, hu, hk⟩, i64_of_wf w0, w1, w2, i64_of_wf w3, w5, i64_of_wf w6, i64_of_wf w7, w8, w9, hok, i64_of_wf w11, w13, i64_of_wf w14⟩
    unfold evCells
    rw [← hcs]
    rfl
set_option maxRecDepth 100000 in
theorem read_evs {fuel : Nat} {c : Value} {x : DataW H × List MemPlace} (h : DataW.trod enc Tryz.prog W base spare held fuel 22 [c] = some x) : ∃ l : List Ev, EvsR W Any c l ∧ (∀ e ∈ l, e.ok) ∧ l.length ≤ maxLen := by
  obtain ⟨A, n, k, rfl⟩ := field_slice Tryz.underlying22 h
  obtain ⟨css, hcl, hcs, hr, h1, h2, hn⟩ := read_slice Tryz.underlying22 cE (by decide) h
  obtain ⟨l, ht⟩ := told_of (R := fun cs (e : Ev) => EvR W Any cs e ∧ e.ok) (css := css) fun cs hc => by
    obtain ⟨hl, m, y, h3⟩ := hcs cs hc
    exact read_ev hl h3
  have hnl : n = l.length := by rw [← hcl, ht.length]
  subst hnl
  exact ⟨l, ⟨css, ⟨A, k, rfl, by rw [flat_length fun c hc => (hcs c hc).1, hcl], h1, h2, hn, hr, fun _ _ _ => trivial⟩, ht.imp fun _ _ h => h.1⟩, told_mem (fun _ _ h => h.2) ht, Nat.le_trans h1 h2⟩
end
end
end Go.Proofs.YtmlnmcoophnlaaaGreat

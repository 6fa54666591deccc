/-
  Sets of events, plain: what the functions of the store compute, and their laws.
  Sets of events: the reference's place.
  Sets of events, plain: Put, Check.
  Sets of events: the reference's Get.
-/
import Derived.Test.YtmlnmcoophnlaaaGreatEvStr
import Derived.BigQuiet
import Derived.Test.YtmlnmcoophnlaaaGreatEvVer
set_option linter.unusedVariables false
set_option linter.unusedSimpArgs false
namespace Go.Proofs.YtmlnmcoophnlaaaGreat
section
/-! ### Finding -/
def hasId (l : List Ev) (id : Int) : Bool := l.any fun e => e.id == id
/-- the place of the first event with an id -/
def placeN (l : List Ev) (id : Int) : Nat := l.findIdx fun e => e.id == id
theorem placeN_le (l : List Ev) (id : Int) : placeN l id ≤ l.length := List.findIdx_le_length
theorem placeN_lt {l : List Ev} {id : Int} (h : hasId l id = true) : placeN l id < l.length := by
  unfold hasId at h; rw [List.any_eq_true] at h
  obtain ⟨x, hx, he⟩ := h
  exact List.findIdx_lt_length_of_exists ⟨x, hx, he⟩
theorem placeN_not {l : List Ev} {id : Int} (h : hasId l id = false) : placeN l id = l.length := by
  unfold placeN
  rw [List.findIdx_eq_length]
  unfold hasId at h; rw [List.any_eq_false] at h
  intro x hx
  simpa using h x hx
theorem hasId_mem {l : List Ev} {id : Int} : hasId l id = true ↔ ∃ e ∈ l, e.id = id := by
  unfold hasId; rw [List.any_eq_true]; simp
/-- the first event with an id -/
def getE : List Ev → Int → Option Ev
  | [], _ => none
  | x :: l, id => if x.id = id then some x else getE l id
theorem getE_some {l : List Ev} {id : Int} (h : hasId l id = true) : ∃ e, getE l id = some e ∧ e.id = id ∧ e ∈ l := by
  induction l with
  | nil => simp [hasId] at h
  | cons x l ih =>
    unfold getE
    by_cases hx : x.id = id
    · exact ⟨x, if_pos hx, hx, by simp⟩
    · rw [if_neg hx]
      obtain ⟨e, h1, h2, h3⟩ := ih (by unfold hasId at h ⊢; rw [List.any_cons, Bool.or_eq_true] at h; rcases h with h | h; exact absurd (by simpa using h) hx; exact h)
      exact ⟨e, h1, h2, List.mem_cons_of_mem _ h3⟩
theorem getE_none {l : List Ev} {id : Int} (h : hasId l id = false) : getE l id = none := by
  induction l with
  | nil => rfl
  | cons x l ih =>
    unfold hasId at h; rw [List.any_cons, Bool.or_eq_false_iff] at h
    unfold getE
    rw [if_neg (by simpa using h.1)]
    exact ih h.2
theorem getE_place {l : List Ev} {id : Int} (h : placeN l id < l.length) : getE l id = some l[placeN l id] := by
  induction l with
  | nil => simp at h
  | cons x l ih =>
    unfold getE
    by_cases hx : x.id = id
    · have : placeN (x :: l) id = 0 := by unfold placeN; rw [List.findIdx_cons]; simp [hx]
      rw [if_pos hx]; simp [this]
    · have hp : placeN (x :: l) id = placeN l id + 1 := by
        unfold placeN; rw [List.findIdx_cons, show (x.id == id) = false from beq_eq_false_iff_ne.2 hx]; rfl
      rw [if_neg hx, ih (by rw [hp] at h; simpa using h)]
      simp [hp]
def idsE (l : List Ev) : List Int := l.map (·.id)
def ofE (l : List Ev) (ids : List Int) : List Ev := ids.filterMap (getE l)
def createE (l : List Ev) : Option Ev := l.find? fun e => e.kind == 1

/-! ### Strictly increasing lists of numbers -/
def Rise (l : List Int) : Prop := l.Pairwise (· < ·)
/-- a number put into its place, once -/
def withI (n : Int) : List Int → List Int
  | [] => [n]
  | x :: l => if x < n then x :: withI n l else if x = n then x :: l else n :: x :: l
theorem withI_mem {n : Int} {l : List Int} {y : Int} : y ∈ withI n l ↔ y = n ∨ y ∈ l := by
  induction l with
  | nil => simp [withI]
  | cons x l ih =>
    unfold withI
    split
    · simp only [List.mem_cons, ih]
      constructor
      · rintro (h | h | h)
        · exact .inr (.inl h)
        · exact .inl h
        · exact .inr (.inr h)
      · rintro (h | h | h)
        · exact .inr (.inl h)
        · exact .inl h
        · exact .inr (.inr h)
    · split
      · rename_i h1 h2
        simp only [List.mem_cons]
        constructor
        · exact fun h => .inr h
        · rintro (h | h)
          · exact .inl (h.trans h2.symm)
          · exact h
      · simp
theorem withI_rise {n : Int} {l : List Int} (h : Rise l) : Rise (withI n l) := by
  induction l with
  | nil => simp [withI, Rise]
  | cons x l ih =>
    unfold Rise at h ih ⊢
    rw [List.pairwise_cons] at h
    unfold withI
    split
    · rename_i h1
      rw [List.pairwise_cons]
      refine ⟨fun y hy => ?_, ih h.2⟩
      rcases withI_mem.1 hy with rfl | hy
      · exact h1
      · exact h.1 y hy
    · split
      · rw [List.pairwise_cons]; exact h
      · rename_i h1 h2
        rw [List.pairwise_cons]
        refine ⟨fun y hy => ?_, by rw [List.pairwise_cons]; exact h⟩
        rcases List.mem_cons.1 hy with rfl | hy
        · omega
        · have := h.1 y hy; omega
/-- such lists are told by their elements -/
theorem rise_ext : ∀ {l m : List Int}, Rise l → Rise m → (∀ y, y ∈ l ↔ y ∈ m) → l = m
  | [], [], _, _, _ => rfl
  | [], y :: m, _, _, h => absurd ((h y).2 (by simp)) (by simp)
  | x :: l, [], _, _, h => absurd ((h x).1 (by simp)) (by simp)
  | x :: l, y :: m, hl, hm, h => by
    unfold Rise at hl hm
    rw [List.pairwise_cons] at hl hm
    have h1 := (h x).1 (by simp)
    have h2 := (h y).2 (by simp)
    have hxy : x = y := by
      rcases List.mem_cons.1 h1 with h1 | h1
      · exact h1
      · rcases List.mem_cons.1 h2 with h2 | h2
        · exact h2.symm
        · have a := hm.1 x h1; have b := hl.1 y h2; omega
    subst hxy
    rw [rise_ext (l := l) (m := m) hl.2 hm.2 (fun z => ?_)]
    constructor
    · intro hz
      rcases List.mem_cons.1 ((h z).1 (List.mem_cons_of_mem _ hz)) with rfl | h3
      · exact absurd (hl.1 z hz) (by omega)
      · exact h3
    · intro hz
      rcases List.mem_cons.1 ((h z).2 (List.mem_cons_of_mem _ hz)) with rfl | h3
      · exact absurd (hm.1 z hz) (by omega)
      · exact h3
/-- the numbers of a list, once each, in order -/
def onceI (l : List Int) : List Int := l.foldl (fun acc n => withI n acc) []
theorem foldI_mem {l acc : List Int} {y : Int} : y ∈ l.foldl (fun acc n => withI n acc) acc ↔ y ∈ acc ∨ y ∈ l := by
  induction l generalizing acc with
  | nil => simp
  | cons x l ih =>
    rw [List.foldl_cons, ih, withI_mem, List.mem_cons]
    constructor
    · rintro ((h | h) | h)
      · exact .inr (.inl h)
      · exact .inl h
      · exact .inr (.inr h)
    · rintro (h | h | h)
      · exact .inl (.inr h)
      · exact .inl (.inl h)
      · exact .inr h
theorem foldI_rise {l acc : List Int} (h : Rise acc) : Rise (l.foldl (fun acc n => withI n acc) acc) := by
  induction l generalizing acc with
  | nil => exact h
  | cons x l ih => rw [List.foldl_cons]; exact ih (withI_rise h)
theorem onceI_mem {l : List Int} {y : Int} : y ∈ onceI l ↔ y ∈ l := by unfold onceI; rw [foldI_mem]; simp
theorem onceI_rise (l : List Int) : Rise (onceI l) := foldI_rise (by simp [Rise])
def missE (l : List Ev) (ids : List Int) : List Int := onceI (ids.filter fun i => !hasId l i)
def refsE (l : List Ev) : List Int := onceI (l.flatMap fun e => e.prev ++ e.auth)
theorem missE_nil {l : List Ev} {id : Int} : (missE l [id]).length = 0 ↔ hasId l id = true := by
  unfold missE
  cases h : hasId l id <;> simp [h, onceI, withI]

/-! ### Putting -/
/-- an event put into its place -/
def insE (e : Ev) : List Ev → List Ev
  | [] => [e]
  | x :: l => if x.id < e.id then x :: insE e l else if x.id = e.id then (if wholeB e = true ∧ wholeB x = false then e else x) :: l else e :: x :: l
theorem insE_comm {a b : Ev} (h : a.id ≠ b.id) : ∀ l : List Ev, insE b (insE a l) = insE a (insE b l)
  | [] => by
    by_cases h1 : a.id < b.id
    · have h2 : ¬ b.id < a.id := by omega
      simp [insE, h1, h2, h.symm]
    · have h2 : b.id < a.id := by omega
      simp [insE, h1, h2, h]
  | x :: l => by
    have ih := insE_comm h l
    by_cases xa : x.id < a.id
    · by_cases xb : x.id < b.id
      · simp [insE, xa, xb, ih]
      · by_cases eb : x.id = b.id
        · have ba : b.id < a.id := by omega
          by_cases hw : wholeB b = true ∧ wholeB x = false
          · simp [insE, xa, eb, hw, ba]
          · simp only [insE, xa, xb, eb, if_true, if_false, if_neg hw]
            simp [insE, ba, eb, hw]
        · have ba : b.id < a.id := by omega
          simp [insE, xa, xb, eb, ba]
    · by_cases ea : x.id = a.id
      · by_cases xb : x.id < b.id
        · have ab : a.id < b.id := by omega
          by_cases hw : wholeB a = true ∧ wholeB x = false
          · simp [insE, xb, ea, hw, ab]
          · simp only [insE, xa, xb, ea, if_true, if_false, if_neg hw]
            simp [insE, ab, ea, hw]
        · have eb : x.id ≠ b.id := by omega
          have ba : b.id < a.id := by omega
          have nb : ¬ a.id < b.id := by omega
          by_cases hw : wholeB a = true ∧ wholeB x = false
          · simp [insE, ea, hw, ba, nb, h, h.symm]
          · simp only [insE, xa, xb, ea, eb, if_true, if_false, if_neg hw]
            simp [insE, ba, nb, ea, hw, h]
      · by_cases xb : x.id < b.id
        · have ab : a.id < b.id := by omega
          simp [insE, xa, ea, xb, ab]
        · by_cases eb : x.id = b.id
          · have ab : a.id < b.id := by omega
            have na : ¬ b.id < a.id := by omega
            by_cases hw : wholeB b = true ∧ wholeB x = false
            · simp [insE, eb, hw, ab, na, h, h.symm]
            · simp only [insE, xa, xb, ea, eb, if_true, if_false, if_neg hw]
              simp [insE, ab, na, eb, hw, h.symm]
          · by_cases ab : a.id < b.id
            · have na : ¬ b.id < a.id := by omega
              simp [insE, xa, ea, xb, eb, ab, na, h.symm]
            · have ba : b.id < a.id := by omega
              simp [insE, xa, ea, xb, eb, ab, ba, h]
theorem insE_again (e : Ev) : ∀ l : List Ev, insE e (insE e l) = insE e l
  | [] => by simp [insE]
  | x :: l => by
    have ih := insE_again e l
    by_cases h1 : x.id < e.id
    · simp [insE, h1, ih]
    · by_cases h2 : x.id = e.id
      · by_cases hw : wholeB e = true ∧ wholeB x = false
        · have hn : ¬ (wholeB e = true ∧ wholeB e = false) := by rintro ⟨a, b⟩; rw [a] at b; cases b
          simp only [insE, h1, h2, if_true, if_false, if_pos hw]
          simp [insE, hn]
        · simp only [insE, h1, h2, if_true, if_false, if_neg hw]
          simp [insE, h2, hw]
      · have hn : ¬ (wholeB e = true ∧ wholeB e = false) := by rintro ⟨a, b⟩; rw [a] at b; cases b
        simp [insE, h1, h2]
theorem insE_ids (e : Ev) : ∀ l : List Ev, idsE (insE e l) = withI e.id (idsE l)
  | [] => rfl
  | x :: l => by
    have ih := insE_ids e l
    unfold idsE at ih ⊢
    by_cases h1 : x.id < e.id
    · simp [insE, withI, h1, ih]
    · by_cases h2 : x.id = e.id
      · by_cases hw : wholeB e = true ∧ wholeB x = false
        · simp [insE, withI, h2, hw]
        · simp only [insE, h1, h2, if_true, if_false, if_neg hw]
          simp [withI, h2]
      · simp [insE, withI, h1, h2]
theorem hasId_ids {l : List Ev} {id : Int} : hasId l id = true ↔ id ∈ idsE l := by
  rw [hasId_mem]; unfold idsE; rw [List.mem_map]
theorem insE_has {e : Ev} {l : List Ev} {id : Int} : hasId (insE e l) id = true ↔ id = e.id ∨ hasId l id = true := by
  rw [hasId_ids, insE_ids, withI_mem, hasId_ids]
theorem insE_rise {e : Ev} {l : List Ev} (h : Rise (idsE l)) : Rise (idsE (insE e l)) := by rw [insE_ids]; exact withI_rise h
theorem insE_len {e : Ev} {l : List Ev} (h1 : hasId l e.id = true) (h2 : Rise (idsE l)) : (insE e l).length = l.length := by
    induction l with
    | nil => simp [hasId] at h1
    | cons x l ih =>
      unfold insE
      by_cases a : x.id < e.id
      · rw [if_pos a, List.length_cons, List.length_cons]
        have h3 : hasId l e.id = true := by
          unfold hasId at h1 ⊢
          rw [List.any_cons, Bool.or_eq_true] at h1
          rcases h1 with h1 | h1
          · have : x.id = e.id := by simpa using h1
            omega
          · exact h1
        have h4 : Rise (idsE l) := by unfold Rise idsE at h2 ⊢; rw [List.map_cons, List.pairwise_cons] at h2; exact h2.2
        rw [ih h3 h4]
      · rw [if_neg a]
        by_cases b : x.id = e.id
        · rw [if_pos b]; rfl
        · exfalso
          rw [hasId_ids] at h1
          unfold Rise at h2
          unfold idsE at h1 h2
          rw [List.map_cons, List.pairwise_cons] at h2
          rw [List.map_cons, List.mem_cons] at h1
          rcases h1 with h1 | h1
          · exact b h1.symm
          · have := h2.1 _ h1; omega
theorem insE_le (e : Ev) : ∀ l : List Ev, l.length ≤ (insE e l).length ∧ (insE e l).length ≤ l.length + 1
  | [] => by simp [insE]
  | x :: l => by
    have ih := insE_le e l
    unfold insE
    split
    · simp only [List.length_cons]; omega
    · split
      · simp
      · simp
theorem insE_mem {e x : Ev} : ∀ {l : List Ev}, x ∈ insE e l → x = e ∨ x ∈ l
  | [], h => by simp [insE] at h; exact .inl h
  | y :: l, h => by
    unfold insE at h
    split at h
    · rcases List.mem_cons.1 h with h | h
      · exact .inr (by rw [h]; simp)
      · rcases insE_mem h with h | h
        · exact .inl h
        · exact .inr (List.mem_cons_of_mem _ h)
    · split at h
      · rcases List.mem_cons.1 h with h | h
        · split at h
          · exact .inl h
          · exact .inr (by rw [h]; simp)
        · exact .inr (List.mem_cons_of_mem _ h)
      · rcases List.mem_cons.1 h with h | h
        · exact .inl h
        · exact .inr h
/-- how the code and the reference put: what is there at the id is found first; else behind all smaller ones -/
theorem insE_set {e : Ev} : ∀ {l : List Ev}, Rise (idsE l) → (h : placeN l e.id < l.length) → insE e l = if wholeB e = true ∧ wholeB l[placeN l e.id] = false then l.set (placeN l e.id) e else l
  | [], _, h => by simp at h
  | x :: l, hr, h => by
    by_cases a : x.id = e.id
    · have hp : placeN (x :: l) e.id = 0 := by unfold placeN; rw [List.findIdx_cons, show (x.id == e.id) = true from beq_iff_eq.2 a]; rfl
      have na : ¬ x.id < e.id := by omega
      unfold insE
      rw [if_neg na, if_pos a]
      simp only [hp, List.getElem_cons_zero, List.set_cons_zero]
      split <;> rfl
    · have hp : placeN (x :: l) e.id = placeN l e.id + 1 := by
        unfold placeN; rw [List.findIdx_cons, show (x.id == e.id) = false from beq_eq_false_iff_ne.2 a]; rfl
      have hl : placeN l e.id < l.length := by rw [hp] at h; simpa using h
      have hr2 : Rise (idsE l) ∧ ∀ y ∈ idsE l, x.id < y := by unfold Rise idsE at hr ⊢; rw [List.map_cons, List.pairwise_cons] at hr; exact ⟨hr.2, hr.1⟩
      have ih := insE_set (e := e) hr2.1 hl
      have hlt : x.id < e.id := by
        have hm : e.id ∈ idsE l := by
          rw [← hasId_ids]
          cases hh : hasId l e.id with
          | true => rfl
          | false => rw [placeN_not hh] at hl; omega
        exact hr2.2 _ hm
      unfold insE
      rw [if_pos hlt, ih]
      simp only [hp, List.getElem_cons_succ, List.set_cons_succ]
      split <;> rfl
def beforeN (l : List Ev) (id : Int) : Nat := l.findIdx fun e => !decide (e.id < id)
theorem insE_new {e : Ev} : ∀ {l : List Ev}, hasId l e.id = false → insE e l = l.take (beforeN l e.id) ++ e :: l.drop (beforeN l e.id)
  | [], _ => rfl
  | x :: l, h => by
    unfold hasId at h; rw [List.any_cons, Bool.or_eq_false_iff] at h
    have hx : x.id ≠ e.id := by simpa using h.1
    have ih := insE_new (e := e) (l := l) h.2
    by_cases a : x.id < e.id
    · have hp : beforeN (x :: l) e.id = beforeN l e.id + 1 := by unfold beforeN; rw [List.findIdx_cons]; simp [a]
      rw [hp]; unfold insE
      rw [if_pos a, ih]; rfl
    · have hp : beforeN (x :: l) e.id = 0 := by unfold beforeN; rw [List.findIdx_cons]; simp [a]
      rw [hp]; unfold insE
      rw [if_neg a, if_neg hx]; rfl
end

section
open Go.RowKit
attribute [local go_sem] Addr.add_mid
def placeI (l : List Ev) (id : Int) : Int := if hasId l id = true then (placeN l id : Int) else -1
theorem placeI_at {l : List Ev} {id : Int} {k : Nat} (h : ∀ e ∈ l.take k, e.id ≠ id) (hk : k < l.length) (hq : l[k].id = id) : placeI l id = (k : Int) := by
  have hh : hasId l id = true := hasId_mem.2 ⟨l[k], List.getElem_mem hk, hq⟩
  have hp : placeN l id = k := by
    unfold placeN
    rw [List.findIdx_eq hk]
    refine ⟨by simpa using hq, fun j hj => ?_⟩
    have : l[j] ∈ l.take k := by rw [List.mem_take_iff_getElem]; exact ⟨j, by omega, rfl⟩
    simpa using h _ this
  unfold placeI; rw [if_pos hh, hp]
theorem placeI_none {l : List Ev} {id : Int} (h : ∀ e ∈ l, e.id ≠ id) : placeI l id = -1 := by
  unfold placeI
  rw [if_neg]
  rw [hasId_mem]
  rintro ⟨e, he, hq⟩
  exact h e he hq
theorem ne_step {l : List Ev} {id : Int} {k : Nat} (h : ∀ e ∈ l.take k, e.id ≠ id) (hk : k < l.length) (hq : l[k].id ≠ id) : ∀ e ∈ l.take (k + 1), e.id ≠ id := by
  rw [List.take_succ_eq_append_getElem hk]
  intro e he
  rcases List.mem_append.1 he with he | he
  · exact h e he
  · simp only [List.mem_cons, List.not_mem_nil, or_false] at he; rw [he]; exact hq
set_option maxRecDepth 100000 in
set_option maxHeartbeats 4000000 in
theorem R8place_any {S : Nat → Prop} {v : Value} {l : List Ev} {id : Int} {w : World} (hr : EvsR w S v l) (hl : l.length ≤ 1000000) :
    Calls Tryz.prog 40 #[v, .int .i64 id] w (fun e w' => e = .returned (.int .i64 (placeI l id)) ∧ w' = w) := by
  obtain ⟨A, c, css, rfl, h1, h2, _, hr, ht⟩ := hr.form
  go_enter Tryz.func40, Tryz.ntmps40
  go_wp2_with fail
  go_loop [5] (fun i => ∃ k : Nat, k ≤ l.length ∧ i = .int .i64 (k : Int) ∧ Hid (∀ e ∈ l.take k, e.id ≠ id)) (fun i => l.length - (intOf i).toNat)
  case atStart => exact ⟨0, Nat.zero_le _, rfl, by simp [Hid]⟩
  case round =>
  obtain ⟨k, hk, rfl, HT⟩ := hrel
  by_cases hlt : k < l.length
  · obtain ⟨b1, o1, cs1, rfl, hb1, he1, _, hc1⟩ := evs_at hr ht k hlt
    have r0 := hc1 0 _ he1.gets.1
    simp only [Nat.add_zero] at r0
    clear hc1 he1
    by_cases hq : l[k].id = id
    · have HF := hide (placeI_at HT.out hlt hq)
      have hq1 : (l[k].id == id) = true := by simpa using hq
      clear hq
      go_wp2_with fail
      go_ret
      exact ⟨by rw [HF.out]; rfl, rfl⟩
    · have HN := hide (ne_step HT.out hlt hq)
      have hq1 : (l[k].id == id) = false := by simpa using hq
      clear hq
      go_wp2_with fail
      go_round
      case rel => exact ⟨k + 1, by omega, by go_num, HN.out⟩
      case measure => (simp [intOf]; try omega)
  · obtain rfl : k = l.length := by omega
    have HF := hide (placeI_none (show ∀ e ∈ l, e.id ≠ id by have := HT.out; rwa [List.take_length] at this))
    go_wp2_with fail
    go_ret
    exact ⟨by rw [HF.out]; rfl, rfl⟩
end

section
/-! ### Put -/
def offB (l : List Ev) (r : ByteArray) : Bool := l.any fun x => decide (x.room ≠ r)
def putC (l : List Ev) (e : Ev) : Int := if offB l e.room = true then 13 else 0
def putE (l : List Ev) (e : Ev) : List Ev :=
  if offB l e.room = true then [] else
    match getE l e.id with
    | some x => if wholeB e = true ∧ wholeB x = false then l.set (placeN l e.id) e else l
    | none => l.take (beforeN l e.id) ++ e :: l.drop (beforeN l e.id)
theorem offB_at {l : List Ev} {r : ByteArray} {k : Nat} (hk : k < l.length) (h : l[k].room ≠ r) : offB l r = true := by
  unfold offB; rw [List.any_eq_true]; exact ⟨l[k], List.getElem_mem hk, by simpa using h⟩
theorem offB_none {l : List Ev} {r : ByteArray} (h : ∀ e ∈ l, e.room = r) : offB l r = false := by
  unfold offB; rw [List.any_eq_false]; intro x hx; simpa using h x hx
theorem offB_all {l : List Ev} {r : ByteArray} (h : offB l r = false) : ∀ e ∈ l, e.room = r := by
  unfold offB at h; rw [List.any_eq_false] at h; intro x hx; simpa using h x hx
theorem put_off {l : List Ev} {e : Ev} (h : offB l e.room = true) : putC l e = 13 ∧ putE l e = [] := by
  unfold putC putE; rw [if_pos h, if_pos h]; exact ⟨rfl, rfl⟩
theorem put_on {l : List Ev} {e : Ev} (h : offB l e.room = false) : putC l e = 0 := by unfold putC; rw [if_neg (by rw [h]; simp)]
theorem put_hit {l : List Ev} {e : Ev} (h : offB l e.room = false) (hk : placeN l e.id < l.length) : putE l e = if wholeB e = true ∧ wholeB l[placeN l e.id] = false then l.set (placeN l e.id) e else l := by
  unfold putE; rw [if_neg (by rw [h]; simp), getE_place hk]
theorem put_new {l : List Ev} {e : Ev} (h : offB l e.room = false) (hn : hasId l e.id = false) : putE l e = l.take (beforeN l e.id) ++ e :: l.drop (beforeN l e.id) := by
  unfold putE; rw [if_neg (by rw [h]; simp), getE_none hn]
theorem putE_ins {l : List Ev} {e : Ev} (hr : Rise (idsE l)) (h : offB l e.room = false) : putE l e = insE e l := by
  cases hn : hasId l e.id
  · rw [put_new h hn, insE_new hn]
  · rw [put_hit h (placeN_lt hn), insE_set hr (placeN_lt hn)]
theorem beforeN_le (l : List Ev) (id : Int) : beforeN l id ≤ l.length := List.findIdx_le_length
theorem beforeN_eq {l : List Ev} {id : Int} {k : Nat} (hk : k ≤ l.length) (h : ∀ e ∈ l.take k, e.id < id) (he : ∀ h : k < l.length, ¬ l[k].id < id) : beforeN l id = k := by
  unfold beforeN
  rcases Nat.lt_or_ge k l.length with hlt | hge
  · rw [List.findIdx_eq hlt]
    refine ⟨by simpa using he hlt, fun j hj => ?_⟩
    have : l[j] ∈ l.take k := by rw [List.mem_take_iff_getElem]; exact ⟨j, by omega, rfl⟩
    simpa using h _ this
  · obtain rfl : k = l.length := by omega
    rw [List.take_length] at h
    rw [List.findIdx_eq_length]
    intro x hx; simpa using h x hx
theorem lt_step {l : List Ev} {id : Int} {k : Nat} (h : ∀ e ∈ l.take k, e.id < id) (hk : k < l.length) (hq : l[k].id < id) : ∀ e ∈ l.take (k + 1), e.id < id := by
  rw [List.take_succ_eq_append_getElem hk]
  intro e he
  rcases List.mem_append.1 he with he | he
  · exact h e he
  · simp only [List.mem_cons, List.not_mem_nil, or_false] at he; rw [he]; exact hq
theorem on_step {l : List Ev} {r : ByteArray} {k : Nat} (h : ∀ e ∈ l.take k, e.room = r) (hk : k < l.length) (hq : l[k].room = r) : ∀ e ∈ l.take (k + 1), e.room = r := by
  rw [List.take_succ_eq_append_getElem hk]
  intro e he
  rcases List.mem_append.1 he with he | he
  · exact h e he
  · simp only [List.mem_cons, List.not_mem_nil, or_false] at he; rw [he]; exact hq

/-! ### Check -/
def verL (l : List Ev) : Int := match l.find? fun e => verE e != 0 with | some e => verE e | none => 0
def mixB : List Ev → Bool
  | [] => false
  | x :: l => offB l x.room
def upB : List Ev → Bool
  | a :: b :: l => decide (a.id < b.id) && upB (b :: l)
  | _ => true
theorem upB_iff : ∀ {l : List Ev}, upB l = true ↔ ∀ j, (h : j + 1 < l.length) → l[j].id < l[j + 1].id
  | [] => by simp [upB]
  | [a] => by simp [upB]
  | a :: b :: l => by
    unfold upB
    rw [Bool.and_eq_true, upB_iff, decide_eq_true_iff]
    constructor
    · rintro ⟨h1, h2⟩ j h
      cases j with
      | zero => exact h1
      | succ j => exact h2 j (by simpa using h)
    · intro h
      exact ⟨h 0 (by simp), fun j hj => h (j + 1) (by simpa using hj)⟩
def checkL (l : List Ev) : Int := if verL l ≠ 0 then verL l else if mixB l = true then 13 else if upB l = false then 8 else 0
theorem verL_at {l : List Ev} {k : Nat} (h : ∀ e ∈ l.take k, verE e = 0) (hk : k < l.length) (hq : verE l[k] ≠ 0) : verL l = verE l[k] := by
  have hd := List.drop_eq_getElem_cons hk
  obtain ⟨e, he⟩ : ∃ e, e = l[k] := ⟨_, rfl⟩
  rw [← he] at hd hq ⊢
  have hn : (l.take k).find? (fun e => verE e != 0) = none := List.find?_eq_none.2 fun x hx => by simpa using h x hx
  unfold verL
  rw [← List.take_append_drop k l, List.find?_append, hn, hd]
  simp [hq]
theorem verL_ok {l : List Ev} (h : ∀ e ∈ l, verE e = 0) : verL l = 0 := by
  unfold verL
  rw [List.find?_eq_none.2 fun x hx => by simpa using h x hx]
theorem check_ver {l : List Ev} {k : Nat} (h : ∀ e ∈ l.take k, verE e = 0) (hk : k < l.length) (hq : verE l[k] ≠ 0) : checkL l = verE l[k] := by
  have := verL_at h hk hq
  unfold checkL; rw [this, if_pos hq]
theorem mixB_at {l : List Ev} {k : Nat} (h0 : 0 < l.length) (hk : k < l.length) (hq : l[k].room ≠ l[0].room) : mixB l = true := by
  cases l with
  | nil => simp at h0
  | cons x l =>
    unfold mixB
    cases k with
    | zero => simp at hq
    | succ k => exact offB_at (k := k) (by simpa using hk) (by simpa using hq)
theorem mixB_none {l : List Ev} (h : ∀ h0 : 0 < l.length, ∀ e ∈ l, e.room = l[0].room) : mixB l = false := by
  cases l with
  | nil => rfl
  | cons x l => exact offB_none fun e he => h (by simp) e (by simp [he])
theorem check_mix {l : List Ev} {k : Nat} (h : verL l = 0) (h0 : 0 < l.length) (hk : k < l.length) (hq : l[k].room ≠ l[0].room) : checkL l = 13 := by
  unfold checkL; rw [if_neg (by simpa using h), if_pos (mixB_at h0 hk hq)]
theorem check_down {l : List Ev} {k : Nat} (h : verL l = 0) (h2 : mixB l = false) (hk : k + 1 < l.length) (hq : ¬ l[k].id < l[k + 1].id) : checkL l = 8 := by
  have : upB l = false := by cases h : upB l; rfl; exact absurd (upB_iff.1 h k hk) hq
  unfold checkL; rw [if_neg (by simpa using h), if_neg (by rw [h2]; simp), if_pos this]
theorem check_ok {l : List Ev} (h : verL l = 0) (h2 : mixB l = false) (h3 : ∀ i, (h : i + 1 < l.length) → l[i].id < l[i + 1].id) : checkL l = 0 := by
  have : upB l = true := upB_iff.2 h3
  unfold checkL; rw [if_neg (by simpa using h), if_neg (by rw [h2]; simp), if_neg (by rw [this]; simp)]
theorem ver_step {l : List Ev} {k : Nat} (h : ∀ e ∈ l.take k, verE e = 0) (hk : k < l.length) (hq : verE l[k] = 0) : ∀ e ∈ l.take (k + 1), verE e = 0 := by
  rw [List.take_succ_eq_append_getElem hk]
  intro e he
  rcases List.mem_append.1 he with he | he
  · exact h e he
  · simp only [List.mem_cons, List.not_mem_nil, or_false] at he; rw [he]; exact hq
end

section
open Go.RowKit
attribute [local go_sem] Addr.add_mid
/-- an event comes back, or the zero event -/
def FoundV (S : Nat → Prop) (o : Option Ev) (w : World) (e : Ending) (w' : World) : Prop :=
  ∃ cs, e = .returned (.tuple #[.agg cs.toArray, .bool o.isSome]) ∧ EvR w' S cs (o.getD Ev.zero) ∧ Below w.heap.size w w'
set_option maxRecDepth 100000 in
set_option maxHeartbeats 4000000 in
theorem R8Get_any {S : Nat → Prop} {v : Value} {l : List Ev} {id : Int} {w : World} (hr : EvsR w S v l) (hl : l.length ≤ 1000000) :
    Calls Tryz.prog 16 #[v, .int .i64 id] w (FoundV S (getE l id) w) := by
  have CP := fun W (h : Below w.heap.size w W) => R8place_any (id := id) (hr.ext h) hl
  obtain ⟨A, c, css, rfl, h1, h2, _, hrow, ht⟩ := hr.form
  have B := heap_alloc_new w (.cells evZero 35)
  have hb := ext_alloc (ext_refl w) (.cells evZero 35)
  have ht2 := ht.imp fun _ _ h => h.ext hb
  have hrow2 := hrow.ext hb
  have R2 : ∀ {cs : List Value} {e : Ev}, EvR w S cs e → EvR (w.alloc (.cells evZero 35)) (fun b => S b ∧ b < w.heap.size) cs e := fun h => (h.weak (S' := fun b => S b ∧ b < w.heap.size) fun b hs h => ⟨hs, h⟩).ext hb
  have ht3 := ht.imp fun _ _ h => R2 h
  clear ht ht2 hrow R2 hr
  go_enter Tryz.func16, Tryz.ntmps16
  go_upto_region 1 with (refine wpList_zeroS rfl rfl strcE ?_)
  generalize w.alloc (.cells evZero 35) = W at B hb ht3 hrow2 ⊢
  have CP := CP _ hb
  cases hh : hasId l id
  case false =>
    have hp : placeI l id = -1 := by unfold placeI; rw [hh]; rfl
    have hg : getE l id = none := getE_none hh
    rw [hp] at CP
    have HG := hide hg
    clear hp hh hg ht3 hrow2
    go_wp2_with (first
      | (go_at_call 40; refine CP.mono ?_; rintro e w1 ⟨rfl, hw1⟩; rw [hw1]; clear hw1 w1)
      | refine wpList_storeB rfl (.tmp 4) (.tmp 12) rfl rfl strcE w.heap.size 0 rfl evZero.toList rfl rfl (by decide) evZero.toList 35 B (by decide) ?_)
    intro wa Ba ga za
    rw [patch_all _ _ rfl] at Ba
    have Ka := hb.grown ga hb.size (fun q hq => by injection hq with hq; omega)
    go_wp2_with fail
    exact bodyPost_cellQ strcE rfl w.heap.size rfl (.bool false) rfl rfl Ba (by decide) ⟨evZero.toList, by rw [HG.out]; rfl, by rw [HG.out]; exact evZero_R _ _, Ka⟩
  case true =>
    have hk := placeN_lt hh
    have hp : placeI l id = ((placeN l id : Nat) : Int) := by unfold placeI; rw [if_pos hh]
    have hg := getE_place hk
    rw [hp] at CP
    obtain ⟨b1, o1, cs1, rfl, hb1, he1, _, hc1⟩ := evs_at hrow2 ht3 _ hk
    obtain ⟨e0, he0⟩ : ∃ e, e = l[placeN l id] := ⟨_, rfl⟩
    rw [← he0] at hg he1
    generalize placeN l id = k at CP hk hc1
    have HG := hide hg
    have HL := hide he1.length; have HO := hide he1.one
    have HC := hide hc1
    have hneg : ¬ ((k : Int) < 0) := by omega
    clear hp hh hg ht3 hrow2 hc1 he0
    go_wp2_with (first
      | (go_at_call 40; refine CP.mono ?_; rintro e w1 ⟨rfl, hw1⟩; rw [hw1]; clear hw1 w1)
      | refine wpList_loadS rfl (.tmp 15) rfl strcE ⟨b1, o1 + k * 29, none⟩ rfl cs1 HL.out (cells_range HC.out) ?_
      | refine wpList_storeB rfl (.tmp 4) (.tmp 16) rfl rfl strcE w.heap.size 0 rfl cs1 rfl HL.out HO.out evZero.toList 35 B (by decide) ?_)
    intro wa Ba ga za
    rw [patch_all _ _ (by rw [HL.out]; rfl)] at Ba
    have Ra := he1.grown ga (fun q hq e => by have := hq.2; injection e with e; omega)
    have Ka := hb.grown ga hb.size (fun q hq => by injection hq with hq; omega)
    go_wp2_with fail
    exact bodyPost_cellQ strcE rfl w.heap.size rfl (.bool true) rfl rfl Ba (by rw [List.size_toArray]; exact HL.out) ⟨cs1, by rw [HG.out]; rfl, by rw [HG.out]; exact Ra.weak fun _ h _ => h.1, Ka⟩
theorem create_at {l : List Ev} {k : Nat} (h : ∀ e ∈ l.take k, e.kind ≠ 1) (hk : k < l.length) (hq : l[k].kind = 1) : createE l = some l[k] := by
  have hd := List.drop_eq_getElem_cons hk
  obtain ⟨e, he⟩ : ∃ e, e = l[k] := ⟨_, rfl⟩
  rw [← he] at hd hq ⊢
  have hn : (l.take k).find? (fun e => e.kind == 1) = none := List.find?_eq_none.2 fun x hx => by simpa using h x hx
  unfold createE
  rw [← List.take_append_drop k l, List.find?_append, hn, hd]
  simp [hq]
theorem create_none {l : List Ev} (h : ∀ e ∈ l, e.kind ≠ 1) : createE l = none := List.find?_eq_none.2 fun x hx => by simpa using h x hx
theorem kn_step {l : List Ev} {k : Nat} (h : ∀ e ∈ l.take k, e.kind ≠ 1) (hk : k < l.length) (hq : l[k].kind ≠ 1) : ∀ e ∈ l.take (k + 1), e.kind ≠ 1 := by
  rw [List.take_succ_eq_append_getElem hk]
  intro e he
  rcases List.mem_append.1 he with he | he
  · exact h e he
  · simp only [List.mem_cons, List.not_mem_nil, or_false] at he; rw [he]; exact hq
set_option maxRecDepth 100000 in
set_option maxHeartbeats 4000000 in
theorem R8Create_any {S : Nat → Prop} {v : Value} {l : List Ev} {w : World} (hr : EvsR w S v l) (hl : l.length ≤ 1000000) :
    Calls Tryz.prog 19 #[v] w (FoundV S (createE l) w) := by
  obtain ⟨A, c, css, rfl, h1, h2, _, hrow, ht⟩ := hr.form
  have B := heap_alloc_new w (.cells evZero 35)
  have hb := ext_alloc (ext_refl w) (.cells evZero 35)
  have hrow2 := hrow.ext hb
  have R2 : ∀ {cs : List Value} {e : Ev}, EvR w S cs e → EvR (w.alloc (.cells evZero 35)) (fun b => S b ∧ b < w.heap.size) cs e := fun h => (h.weak (S' := fun b => S b ∧ b < w.heap.size) fun b hs h => ⟨hs, h⟩).ext hb
  have ht3 := ht.imp fun _ _ h => R2 h
  clear ht hrow R2 hr
  go_enter Tryz.func19, Tryz.ntmps19
  go_upto_region 1 with (refine wpList_zeroS rfl rfl strcE ?_)
  generalize w.alloc (.cells evZero 35) = W at B hb ht3 hrow2 ⊢
  go_upto_region 2 with fail
  go_loop [4] (fun i => ∃ k : Nat, k ≤ l.length ∧ i = .int .i64 (k : Int) ∧ Hid (∀ e ∈ l.take k, e.kind ≠ 1)) (fun i => l.length - (intOf i).toNat)
  case atStart => exact ⟨0, Nat.zero_le _, rfl, by simp [Hid]⟩
  case round =>
  obtain ⟨k, hk, rfl, HT⟩ := hrel
  by_cases hlt : k < l.length
  · obtain ⟨b1, o1, cs1, rfl, hb1, he1, _, hc1⟩ := evs_at hrow2 ht3 k hlt
    have r3 := hc1 3 _ he1.gets.2.2.2.1
    have HC := hide hc1
    have HL := hide he1.length; have HO := hide he1.one
    by_cases hq : l[k].kind = 1
    · have HF := hide (create_at HT.out hlt hq)
      have hq1 : (l[k].kind == 1) = true := by simpa using hq
      obtain ⟨e0, he0⟩ : ∃ e, e = l[k] := ⟨_, rfl⟩
      rw [← he0] at HF hq1 r3 he1
      clear hc1 hq he0
      go_wp2_with (first
        | refine wpList_loadS rfl (.tmp 19) rfl strcE ⟨b1, o1 + k * 29, none⟩ rfl cs1 HL.out (cells_range HC.out) ?_
        | refine wpList_storeB rfl (.tmp 2) (.tmp 20) rfl rfl strcE w.heap.size 0 rfl cs1 rfl HL.out HO.out evZero.toList 35 B (by decide) ?_)
      intro wa Ba ga za
      rw [patch_all _ _ (by rw [HL.out]; rfl)] at Ba
      have Ra := he1.grown ga (fun q hq e => by have := hq.2; injection e with e; omega)
      have Ka := hb.grown ga hb.size (fun q hq => by injection hq with hq; omega)
      go_wp2_with fail
      exact bodyPost_cellQ strcE rfl w.heap.size rfl (.bool true) rfl rfl Ba (by rw [List.size_toArray]; exact HL.out) ⟨cs1, by rw [HF.out]; rfl, by rw [HF.out]; exact Ra.weak fun _ h _ => h.1, Ka⟩
    · have HN := hide (kn_step HT.out hlt hq)
      have hq1 : (l[k].kind == 1) = false := by simpa using hq
      clear hq hc1 he1
      go_wp2_with fail
      go_round
      case rel => exact ⟨k + 1, by omega, by go_num, HN.out⟩
      case measure => (simp [intOf]; try omega)
  · obtain rfl : k = l.length := by omega
    have HF := hide (create_none (show ∀ e ∈ l, e.kind ≠ 1 by have := HT.out; rwa [List.take_length] at this))
    clear ht3 hrow2
    go_wp2_with (refine wpList_storeB rfl (.tmp 2) (.tmp 21) rfl rfl strcE w.heap.size 0 rfl evZero.toList rfl rfl (by decide) evZero.toList 35 B (by decide) ?_)
    intro wa Ba ga za
    rw [patch_all _ _ rfl] at Ba
    have Ka := hb.grown ga hb.size (fun q hq => by injection hq with hq; omega)
    go_wp2_with fail
    exact bodyPost_cellQ strcE rfl w.heap.size rfl (.bool false) rfl rfl Ba (by decide) ⟨evZero.toList, by rw [HF.out]; rfl, by rw [HF.out]; exact evZero_R _ _, Ka⟩
set_option maxRecDepth 100000 in
set_option maxHeartbeats 4000000 in
theorem SCreate_any {S : Nat → Prop} {v : Value} {l : List Ev} {w : World} (hr : EvsR w S v l) (hl : l.length ≤ 1000000) :
    Calls Tryz.prog 18 #[v] w (FoundV S (createE l) w) := by
  obtain ⟨A, c, css, rfl, h1, h2, _, hrow, ht⟩ := hr.form
  have B := heap_alloc_new w (.cells evZero 35)
  have hb := ext_alloc (ext_refl w) (.cells evZero 35)
  have hrow2 := hrow.ext hb
  have R2 : ∀ {cs : List Value} {e : Ev}, EvR w S cs e → EvR (w.alloc (.cells evZero 35)) (fun b => S b ∧ b < w.heap.size) cs e := fun h => (h.weak (S' := fun b => S b ∧ b < w.heap.size) fun b hs h => ⟨hs, h⟩).ext hb
  have ht3 := ht.imp fun _ _ h => R2 h
  clear ht hrow R2 hr
  go_enter Tryz.func18, Tryz.ntmps18
  go_upto_region 1 with (refine wpList_zeroS rfl rfl strcE ?_)
  generalize w.alloc (.cells evZero 35) = W at B hb ht3 hrow2 ⊢
  go_upto_region 2 with fail
  go_loopw [8] (fun i wr => ∃ k : Nat, k ≤ l.length ∧ i = .int .i64 (k : Int) ∧ Hid (∀ e ∈ l.take k, e.kind ≠ 1) ∧ Below W.heap.size W wr) (fun i _ => l.length - (intOf i).toNat)
  case atStart => exact ⟨0, Nat.zero_le _, rfl, by simp [Hid], ext_refl _⟩
  case round =>
  obtain ⟨k, hk, rfl, HT, hnx⟩ := hrel
  by_cases hlt : k < l.length
  · obtain ⟨b1, o1, cs1, rfl, hb1, he1, _, hc1⟩ := evs_at (hrow2.ext hnx) (ht3.imp fun _ _ h => h.ext hnx) k hlt
    have HC := hide hc1
    have HL := hide he1.length; have HO := hide he1.one
    have c3 := he1.gets.2.2.2.1
    have BX := heap_alloc_new wr (.cells cs1.toArray 35)
    have kx := ext_alloc (ext_refl wr) (.cells cs1.toArray 35)
    have r3 := box_at BX c3
    have HBX := hide BX
    have BR := box_below (box_below B hnx) kx
    have KB := ext_trans hb (ext_trans hnx kx)
    have hnx2 := ext_trans hnx kx
    clear hc1 BX c3
    go_upto_region 4 with (first
      | refine wpList_loadS rfl (.tmp 10) rfl strcE ⟨b1, o1 + k * 29, none⟩ rfl cs1 HL.out (cells_range HC.out) ?_
      | refine wpList_newS rfl rfl strcE rfl (.tmp 5) (.tmp 11) rfl rfl rfl cs1.toArray rfl (by simpa using HL.out) (by simpa using HO.out) ?_)
    have he2 := he1.ext kx
    generalize wr.alloc (.cells cs1.toArray 35) = w2 at kx r3 HBX BR KB hnx2 he2 ⊢
    generalize wr.heap.size = g5 at kx r3 HBX ⊢
    by_cases hq : l[k].kind = 1
    · have HF := hide (create_at HT.out hlt hq)
      have hq1 : (l[k].kind == 1) = true := by simpa using hq
      obtain ⟨e0, he0⟩ : ∃ e, e = l[k] := ⟨_, rfl⟩
      rw [← he0] at HF hq1 r3 he1 he2
      clear hq he0 he1
      go_wp2_with (first
        | refine wpList_loadS rfl (.tmp 5) rfl strcE ⟨g5, 0, none⟩ rfl cs1 HL.out (box_all HBX.out) ?_
        | refine wpList_storeB rfl (.tmp 2) (.tmp 15) rfl rfl strcE w.heap.size 0 rfl cs1 rfl HL.out HO.out evZero.toList 35 BR (by decide) ?_)
      intro wa Ba ga za
      rw [patch_all _ _ (by rw [HL.out]; rfl)] at Ba
      have Ra := he2.grown ga (fun q hq e => by have := hq.2; injection e with e; omega)
      have Ka := KB.grown ga KB.size (fun q hq => by injection hq with hq; omega)
      go_wp2_with fail
      exact bodyPost_cellQ strcE rfl w.heap.size rfl (.bool true) rfl rfl Ba (by rw [List.size_toArray]; exact HL.out) ⟨cs1, by rw [HF.out]; rfl, by rw [HF.out]; exact Ra.weak fun _ h _ => h.1, Ka⟩
    · have HN := hide (kn_step HT.out hlt hq)
      have hq1 : (l[k].kind == 1) = false := by simpa using hq
      clear hq he1 he2
      go_wp2_with fail
      go_roundw
      case rel => exact ⟨k + 1, by omega, by go_num, HN.out, hnx2⟩
      case measure => (simp [intOf]; try omega)
  · obtain rfl : k = l.length := by omega
    have HF := hide (create_none (show ∀ e ∈ l, e.kind ≠ 1 by have := HT.out; rwa [List.take_length] at this))
    have BR := box_below B hnx
    have KB := ext_trans hb hnx
    clear ht3 hrow2
    go_wp2_with (refine wpList_storeB rfl (.tmp 2) (.tmp 17) rfl rfl strcE w.heap.size 0 rfl evZero.toList rfl rfl (by decide) evZero.toList 35 BR (by decide) ?_)
    intro wa Ba ga za
    rw [patch_all _ _ rfl] at Ba
    have Ka := KB.grown ga KB.size (fun q hq => by injection hq with hq; omega)
    go_wp2_with fail
    exact bodyPost_cellQ strcE rfl w.heap.size rfl (.bool false) rfl rfl Ba (by decide) ⟨evZero.toList, by rw [HF.out]; rfl, by rw [HF.out]; exact evZero_R _ _, Ka⟩
set_option maxRecDepth 100000 in
set_option maxHeartbeats 4000000 in
theorem place1_any {S : Nat → Prop} {cs : List Value} {e : Ev} {id : Int} {g : Nat} {w : World} (he : EvR w S cs e) (hg : w.heap[g]? = some (.cells [.int .i64 id].toArray 3 (0, 0))) :
    Calls Tryz.prog 49 #[.agg cs.toArray, .pointer (some ⟨g, 0, none⟩)] w (Says (e.id == id) w) := by
  have s0 := he.gets.1
  have B := heap_alloc_new w (.cells cs.toArray 35)
  have hb := ext_alloc (ext_refl w) (.cells cs.toArray 35)
  have r0 := box_at B s0
  have r1 := box_at (C := [.int .i64 id]) (box_below hg hb) (j := 0) (u := .int .i64 id) rfl
  clear he s0 B hg
  go_enter Tryz.func49, Tryz.ntmps49
  go_wp2_with fail
  go_ret
  exact ⟨rfl, hb⟩
set_option maxRecDepth 100000 in
set_option maxHeartbeats 4000000 in
theorem index_any {S : Nat → Prop} {v : Value} {l : List Ev} {id : Int} {g : Nat} {w : World} (hr : EvsR w S v l) (hl : l.length ≤ 1000000) (hg : w.heap[g]? = some (.cells [.int .i64 id].toArray 3 (0, 0))) :
    Calls Tryz.prog 48 #[v, .func (Fn.func 49) #[] #[.pointer (some ⟨g, 0, none⟩)]] w (fun e w' => e = .returned (.int .i64 (placeI l id)) ∧ Below w.heap.size w w') := by
  obtain ⟨A, c, css, rfl, h1, h2, _, hrow, ht⟩ := hr.form
  clear hr
  go_enter Tryz.func48, Tryz.ntmps48
  go_upto_region 2 with fail
  go_loopw [8] (fun i wr => ∃ k : Nat, k ≤ l.length ∧ i = .int .i64 (k : Int) ∧ Hid (∀ e ∈ l.take k, e.id ≠ id) ∧ Below w.heap.size w wr) (fun i _ => l.length - (intOf i).toNat)
  case atStart => exact ⟨0, Nat.zero_le _, rfl, by simp [Hid], ext_refl _⟩
  case round =>
  obtain ⟨k, hk, rfl, HT, hnx⟩ := hrel
  by_cases hlt : k < l.length
  · obtain ⟨b1, o1, cs1, rfl, hb1, he1, _, hc1⟩ := evs_at (hrow.ext hnx) (ht.imp fun _ _ h => h.ext hnx) k hlt
    have HC := hide hc1
    have HL := hide he1.length
    have CP := place1_any (id := id) he1 (box_below hg hnx)
    clear hc1 he1
    by_cases hq : l[k].id = id
    · have HF := hide (placeI_at HT.out hlt hq)
      rw [show (l[k].id == id) = true by simpa using hq] at CP
      clear hq
      go_wp2_with (refine wpList_loadS rfl (.tmp 14) rfl strcE ⟨b1, o1 + k * 29, none⟩ rfl cs1 HL.out (cells_range HC.out) ?_)
      refine CP.mono ?_
      rintro e w1 ⟨rfl, hb2⟩
      go_wp2_with fail
      go_ret
      exact ⟨by rw [HF.out]; rfl, ext_trans hnx hb2⟩
    · have HN := hide (ne_step HT.out hlt hq)
      rw [show (l[k].id == id) = false by simpa using hq] at CP
      clear hq
      go_wp2_with (refine wpList_loadS rfl (.tmp 14) rfl strcE ⟨b1, o1 + k * 29, none⟩ rfl cs1 HL.out (cells_range HC.out) ?_)
      refine CP.mono ?_
      rintro e w1 ⟨rfl, hb2⟩
      have hnx2 := ext_trans hnx hb2
      go_wp2_with fail
      go_roundw
      case rel => exact ⟨k + 1, by omega, by go_num, HN.out, hnx2⟩
      case measure => (simp [intOf]; try omega)
  · obtain rfl : k = l.length := by omega
    have HF := hide (placeI_none (show ∀ e ∈ l, e.id ≠ id by have := HT.out; rwa [List.take_length] at this))
    go_wp2_with fail
    go_ret
    exact ⟨by rw [HF.out]; rfl, hnx⟩
set_option maxRecDepth 100000 in
set_option maxHeartbeats 4000000 in
theorem Splace_any {S : Nat → Prop} {v : Value} {l : List Ev} {id : Int} {w : World} (hr : EvsR w S v l) (hl : l.length ≤ 1000000) :
    Calls Tryz.prog 34 #[v, .int .i64 id] w (fun e w' => e = .returned (.int .i64 (placeI l id)) ∧ Below w.heap.size w w') := by
  have B := heap_alloc_new w (.cells #[.int .i64 id] 3)
  have hb := ext_alloc (ext_refl w) (.cells #[.int .i64 id] 3)
  have CI := index_any (id := id) (g := w.heap.size) (hr.ext hb) hl B
  go_enter Tryz.func34, Tryz.ntmps34
  go_wp2_with (go_at_call 48; refine CI.mono ?_; rintro e w1 ⟨rfl, hb1⟩)
  go_ret
  exact ⟨rfl, ext_trans hb hb1⟩
set_option maxRecDepth 100000 in
set_option maxHeartbeats 4000000 in
theorem SGet_any {S : Nat → Prop} {v : Value} {l : List Ev} {id : Int} {w : World} (hr : EvsR w S v l) (hl : l.length ≤ 1000000) :
    Calls Tryz.prog 15 #[v, .int .i64 id] w (FoundV S (getE l id) w) := by
  have CP := fun W (h : Below w.heap.size w W) => Splace_any (id := id) (hr.ext h) hl
  obtain ⟨A, c, css, rfl, h1, h2, _, hrow, ht⟩ := hr.form
  have B := heap_alloc_new w (.cells evZero 35)
  have hb := ext_alloc (ext_refl w) (.cells evZero 35)
  have ht2 := ht.imp fun _ _ h => h.ext hb
  have hrow2 := hrow.ext hb
  have R2 : ∀ {cs : List Value} {e : Ev}, EvR w S cs e → EvR (w.alloc (.cells evZero 35)) (fun b => S b ∧ b < w.heap.size) cs e := fun h => (h.weak (S' := fun b => S b ∧ b < w.heap.size) fun b hs h => ⟨hs, h⟩).ext hb
  have ht3 := ht.imp fun _ _ h => R2 h
  clear ht ht2 hrow R2 hr
  go_enter Tryz.func15, Tryz.ntmps15
  go_upto_region 1 with (refine wpList_zeroS rfl rfl strcE ?_)
  generalize w.alloc (.cells evZero 35) = W at B hb ht3 hrow2 ⊢
  have CP := CP _ hb
  cases hh : hasId l id
  case false =>
    have hp : placeI l id = -1 := by unfold placeI; rw [hh]; rfl
    have hg : getE l id = none := getE_none hh
    rw [hp] at CP
    have HG := hide hg
    clear hp hh hg ht3 hrow2
    go_wp2_with (first
      | (go_at_call 34; refine CP.mono ?_; rintro e w1 ⟨rfl, hb1⟩; replace B := box_below B hb1; replace hb := ext_trans hb hb1; clear hb1)
      | refine wpList_storeB rfl (.tmp 4) (.tmp 12) rfl rfl strcE w.heap.size 0 rfl evZero.toList rfl rfl (by decide) evZero.toList 35 B (by decide) ?_)
    intro wa Ba ga za
    rw [patch_all _ _ rfl] at Ba
    have Ka := hb.grown ga hb.size (fun q hq => by injection hq with hq; omega)
    go_wp2_with fail
    exact bodyPost_cellQ strcE rfl w.heap.size rfl (.bool false) rfl rfl Ba (by decide) ⟨evZero.toList, by rw [HG.out]; rfl, by rw [HG.out]; exact evZero_R _ _, Ka⟩
  case true =>
    have hk := placeN_lt hh
    have hp : placeI l id = ((placeN l id : Nat) : Int) := by unfold placeI; rw [if_pos hh]
    have hg := getE_place hk
    rw [hp] at CP
    obtain ⟨b1, o1, cs1, rfl, hb1, he1, _, hc1⟩ := evs_at hrow2 ht3 _ hk
    obtain ⟨e0, he0⟩ : ∃ e, e = l[placeN l id] := ⟨_, rfl⟩
    rw [← he0] at hg he1
    generalize placeN l id = k at CP hk hc1
    have HG := hide hg
    have HL := hide he1.length; have HO := hide he1.one
    have HC := hide hc1
    have hneg : ¬ ((k : Int) < 0) := by omega
    clear hp hh hg ht3 hrow2 hc1 he0
    go_wp2_with (first
      | (go_at_call 34; refine CP.mono ?_; rintro e w1 ⟨rfl, hbx⟩; replace B := box_below B hbx; replace hb := ext_trans hb hbx; replace HC := hide (range_below HC.out hbx); replace he1 := he1.ext hbx; clear hbx)
      | refine wpList_loadS rfl (.tmp 15) rfl strcE ⟨b1, o1 + k * 29, none⟩ rfl cs1 HL.out (cells_range HC.out) ?_
      | refine wpList_storeB rfl (.tmp 4) (.tmp 16) rfl rfl strcE w.heap.size 0 rfl cs1 rfl HL.out HO.out evZero.toList 35 B (by decide) ?_)
    intro wa Ba ga za
    rw [patch_all _ _ (by rw [HL.out]; rfl)] at Ba
    have Ra := he1.grown ga (fun q hq e => by have := hq.2; injection e with e; omega)
    have Ka := hb.grown ga hb.size (fun q hq => by injection hq with hq; omega)
    go_wp2_with fail
    exact bodyPost_cellQ strcE rfl w.heap.size rfl (.bool true) rfl rfl Ba (by rw [List.size_toArray]; exact HL.out) ⟨cs1, by rw [HG.out]; rfl, by rw [HG.out]; exact Ra.weak fun _ h _ => h.1, Ka⟩
end
end Go.Proofs.YtmlnmcoophnlaaaGreat

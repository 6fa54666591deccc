/-
  Contents and events as plain values, and the cells that tell them. No function of the program; no condition.
-/
import Derived.Test.YtmlnmcoophnlaaaGreatMem
import Derived.Test.YtmlnmcoophnlaaaGreatAggs
set_option linter.unusedVariables false
set_option linter.unusedSimpArgs false
namespace Go.Proofs.YtmlnmcoophnlaaaGreat
open Go.RowKit

/-! ### Plain values -/
structure Lev where
  users : List (ByteArray × Int)
  kinds : List (Int × Int)
  user : Int
  message : Int
  state : Int
  invite : Int
  kick : Int
  ban : Int
  redact : Int
  deriving DecidableEq
structure Con where
  text : ByteArray
  n : Int
  target : Int
  thread : Bool
  via : ByteArray
  allow : List ByteArray
  deny : List ByteArray
  lv : Lev
  deriving DecidableEq
structure Ev where
  id : Int
  room : ByteArray
  sender : ByteArray
  kind : Int
  state : Bool
  key : ByteArray
  time : Int
  depth : Int
  prev : List Int
  auth : List Int
  con : Con
  hash : Int
  server : ByteArray
  sum : Int
  deriving DecidableEq

/-- users' levels, kinds' levels: two cells an element -/
def ucs (l : List (ByteArray × Int)) : List Value := l.flatMap fun p => [.string p.1, .int .i64 p.2]
def kcs (l : List (Int × Int)) : List Value := l.flatMap fun p => [.int .i64 p.1, .int .i64 p.2]
theorem flat2_length {α : Type} (f g : α → Value) : ∀ l : List α, (l.flatMap fun p => [f p, g p]).length = l.length * 2
  | [] => rfl
  | x :: l => by simp only [List.flatMap_cons, List.length_append, List.length_cons, List.length_nil, flat2_length f g l]; omega
theorem ucs_length (l : List (ByteArray × Int)) : (ucs l).length = l.length * 2 := flat2_length _ _ l
theorem kcs_length (l : List (Int × Int)) : (kcs l).length = l.length * 2 := flat2_length _ _ l

theorem flat2_get {α : Type} (f g : α → Value) : ∀ (l : List α) (k : Nat) (h : k < l.length), (l.flatMap fun p => [f p, g p])[k * 2]? = some (f l[k]) ∧ (l.flatMap fun p => [f p, g p])[k * 2 + 1]? = some (g l[k])
  | [], k, h => by simp at h
  | x :: l, 0, _ => by simp
  | x :: l, k + 1, h => by
    have := flat2_get f g l k (by simpa using h)
    simp only [List.flatMap_cons, List.cons_append, List.nil_append, Nat.succ_mul, List.getElem_cons_succ]
    exact ⟨this.1, this.2⟩
theorem ucs_get (l : List (ByteArray × Int)) (k : Nat) (h : k < l.length) : (ucs l)[k * 2]? = some (.string l[k].1) ∧ (ucs l)[k * 2 + 1]? = some (.int .i64 l[k].2) := flat2_get _ _ l k h
theorem kcs_get (l : List (Int × Int)) (k : Nat) (h : k < l.length) : (kcs l)[k * 2]? = some (.int .i64 l[k].1) ∧ (kcs l)[k * 2 + 1]? = some (.int .i64 l[k].2) := flat2_get _ _ l k h

/-! ### A slice value that tells cells: n elements of size cells, in a block of S -/
def Slc (w : World) (S : Nat → Prop) (v : Value) (size n : Nat) (xs : List Value) : Prop :=
  ∃ A c, v = .slice A n c ∧ xs.length = n * size ∧ n ≤ c ∧ c ≤ maxLen ∧ (A = none → n = 0) ∧ Row w w.heap.size A xs ∧ (xs ≠ [] → ∀ ad, A = some ad → S ad.block)
def Any (_ : Nat) : Prop := True
section
variable {w w' : World} {S S' : Nat → Prop} {v : Value} {size n : Nat} {xs : List Value}
theorem Slc.ext (h : Slc w S v size n xs) (k : Below w.heap.size w w') : Slc w' S v size n xs := by
  obtain ⟨A, c, rfl, h1, h2, h3, h4, h5, h6⟩ := h
  exact ⟨A, c, rfl, h1, h2, h3, h4, h5.ext k, h6⟩
theorem Slc.weak (h : Slc w S v size n xs) (hS : ∀ b, S b → b < w.heap.size → S' b) : Slc w S' v size n xs := by
  obtain ⟨A, c, rfl, h1, h2, h3, h4, h5, h6⟩ := h
  refine ⟨A, c, rfl, h1, h2, h3, h4, h5, fun hn ad ha => hS _ (h6 hn ad ha) ?_⟩
  obtain ⟨ad', e, hb, _⟩ := h5 hn
  rw [ha] at e; injection e with e; subst e; exact hb
theorem Slc.any (h : Slc w S v size n xs) : Slc w Any v size n xs := h.weak fun _ _ _ => trivial
theorem Slc.old (h : Slc w S v size n xs) {B : Nat} (hB : w.heap.size ≤ B) : Slc w (· < B) v size n xs := h.weak fun _ _ hb => Nat.lt_of_lt_of_le hb hB
theorem Slc.grown {row : Option Nat} (h : Slc w S v size n xs) (hg : w.grownBy w' row) (hr : ∀ b, S b → row ≠ some b) : Slc w' S v size n xs := by
  obtain ⟨A, c, rfl, h1, h2, h3, h4, h5, h6⟩ := h
  refine ⟨A, c, rfl, h1, h2, h3, h4, fun hn => ?_, h6⟩
  obtain ⟨ad, ha, hb, hc⟩ := h5 hn
  refine ⟨ad, ha, Nat.lt_of_lt_of_le hb hg.size, fun j u hu => ?_⟩
  rw [← hc j u hu]
  have hS := h6 hn ad ha
  exact World.cell?_of_block (by rw [block_of_add]; exact hg.block _ hb (Ne.symm (hr _ hS)))
theorem Slc.form (h : Slc w S v size n xs) : ∃ A c, v = .slice A n c ∧ n ≤ c ∧ c ≤ maxLen ∧ (A = none → n = 0) ∧ Row w w.heap.size A xs ∧ xs.length = n * size := by
  obtain ⟨A, c, rfl, h1, h2, h3, h4, h5, _⟩ := h
  exact ⟨A, c, rfl, h2, h3, h4, h5, h1⟩
theorem Slc.nil (w : World) (S : Nat → Prop) (size : Nat) : Slc w S (.slice none 0 0) size 0 [] := ⟨none, 0, rfl, by simp, Nat.le_refl _, Nat.zero_le _, fun _ => rfl, Row.nil, fun h => absurd rfl h⟩
theorem Slc.own {base : Nat} {e : TypeId} (h : w.ownsRow base e size v n xs) (hs : 0 < size) : Slc w (base ≤ ·) v size n xs := by
  obtain ⟨A, c, rfl, hc, hm⟩ := own_form h
  have hr := Row.own h
  refine ⟨A, c, rfl, h.1, hc, hm, ?_, hr, ?_⟩
  · rintro rfl
    rcases h.2 with ⟨hv, _⟩ | ⟨g, cap, cur, hv, _⟩
    · injection hv
    · simp at hv
  · intro hn ad ha
    subst ha
    rcases h.2 with ⟨hv, _⟩ | ⟨g, cap, cur, hv, hb, _⟩
    · injection hv with h1; cases h1
    · injection hv with h1; injection h1 with h1; subst h1; exact hb
end

/-! ### The cells of levels, contents, events -/
def levCells (l : Lev) (vu vk : Value) : List Value := [vu, vk, .int .i64 l.user, .int .i64 l.message, .int .i64 l.state, .int .i64 l.invite, .int .i64 l.kick, .int .i64 l.ban, .int .i64 l.redact]
def conCells (c : Con) (va vd vu vk : Value) : List Value := [.string c.text, .int .i64 c.n, .int .i64 c.target, .bool c.thread, .string c.via, va, vd] ++ levCells c.lv vu vk
def evCells (e : Ev) (vp vq va vd vu vk : Value) : List Value :=
  [.int .i64 e.id, .string e.room, .string e.sender, .int .i64 e.kind, .bool e.state, .string e.key, .int .i64 e.time, .int .i64 e.depth, vp, vq] ++ (conCells e.con va vd vu vk ++ [.int .i64 e.hash, .string e.server, .int .i64 e.sum])

def LevR (w : World) (S : Nat → Prop) (cs : List Value) (l : Lev) : Prop := ∃ vu vk, cs = levCells l vu vk ∧ Slc w S vu 2 l.users.length (ucs l.users) ∧ Slc w S vk 2 l.kinds.length (kcs l.kinds)
def ConR (w : World) (S : Nat → Prop) (cs : List Value) (c : Con) : Prop :=
  ∃ va vd vu vk, cs = conCells c va vd vu vk ∧ Slc w S va 1 c.allow.length (svs c.allow) ∧ Slc w S vd 1 c.deny.length (svs c.deny) ∧ Slc w S vu 2 c.lv.users.length (ucs c.lv.users) ∧ Slc w S vk 2 c.lv.kinds.length (kcs c.lv.kinds)
def EvR (w : World) (S : Nat → Prop) (cs : List Value) (e : Ev) : Prop :=
  ∃ vp vq va vd vu vk, cs = evCells e vp vq va vd vu vk ∧ Slc w S vp 1 e.prev.length (ivs e.prev) ∧ Slc w S vq 1 e.auth.length (ivs e.auth) ∧
    Slc w S va 1 e.con.allow.length (svs e.con.allow) ∧ Slc w S vd 1 e.con.deny.length (svs e.con.deny) ∧ Slc w S vu 2 e.con.lv.users.length (ucs e.con.lv.users) ∧ Slc w S vk 2 e.con.lv.kinds.length (kcs e.con.lv.kinds)

section
variable {w w' : World} {S S' : Nat → Prop} {cs : List Value}
theorem Slc.one {v : Value} {size n : Nat} {xs : List Value} (h : Slc w S v size n xs) : v.oneCell' = true := by obtain ⟨A, c, rfl, _⟩ := h; rfl
theorem LevR.ext {l : Lev} (h : LevR w S cs l) (k : Below w.heap.size w w') : LevR w' S cs l := by
  obtain ⟨vu, vk, rfl, h1, h2⟩ := h
  exact ⟨vu, vk, rfl, h1.ext k, h2.ext k⟩
theorem LevR.length {l : Lev} (h : LevR w S cs l) : cs.length = 9 := by obtain ⟨_, _, rfl, _⟩ := h; rfl
theorem ConR.ext {c : Con} (h : ConR w S cs c) (k : Below w.heap.size w w') : ConR w' S cs c := by
  obtain ⟨va, vd, vu, vk, rfl, h1, h2, h3, h4⟩ := h
  exact ⟨va, vd, vu, vk, rfl, h1.ext k, h2.ext k, h3.ext k, h4.ext k⟩
theorem ConR.weak {c : Con} (h : ConR w S cs c) (hS : ∀ b, S b → b < w.heap.size → S' b) : ConR w S' cs c := by
  obtain ⟨va, vd, vu, vk, rfl, h1, h2, h3, h4⟩ := h
  exact ⟨va, vd, vu, vk, rfl, h1.weak hS, h2.weak hS, h3.weak hS, h4.weak hS⟩
theorem ConR.any {c : Con} (h : ConR w S cs c) : ConR w Any cs c := h.weak fun _ _ _ => trivial
theorem ConR.length {c : Con} (h : ConR w S cs c) : cs.length = 16 := by obtain ⟨_, _, _, _, rfl, _⟩ := h; rfl
theorem ConR.one {c : Con} (h : ConR w S cs c) : ∀ u ∈ cs, u.oneCell' = true := by
  obtain ⟨va, vd, vu, vk, rfl, h1, h2, h3, h4⟩ := h
  intro u hu
  simp only [conCells, levCells, List.cons_append, List.nil_append, List.mem_cons, List.not_mem_nil, or_false] at hu
  rcases hu with rfl | rfl | rfl | rfl | rfl | rfl | rfl | rfl | rfl | rfl | rfl | rfl | rfl | rfl | rfl | rfl <;> first | rfl | exact h1.one | exact h2.one | exact h3.one | exact h4.one
theorem EvR.ext {e : Ev} (h : EvR w S cs e) (k : Below w.heap.size w w') : EvR w' S cs e := by
  obtain ⟨vp, vq, va, vd, vu, vk, rfl, h1, h2, h3, h4, h5, h6⟩ := h
  exact ⟨vp, vq, va, vd, vu, vk, rfl, h1.ext k, h2.ext k, h3.ext k, h4.ext k, h5.ext k, h6.ext k⟩
theorem EvR.weak {e : Ev} (h : EvR w S cs e) (hS : ∀ b, S b → b < w.heap.size → S' b) : EvR w S' cs e := by
  obtain ⟨vp, vq, va, vd, vu, vk, rfl, h1, h2, h3, h4, h5, h6⟩ := h
  exact ⟨vp, vq, va, vd, vu, vk, rfl, h1.weak hS, h2.weak hS, h3.weak hS, h4.weak hS, h5.weak hS, h6.weak hS⟩
theorem EvR.any {e : Ev} (h : EvR w S cs e) : EvR w Any cs e := h.weak fun _ _ _ => trivial
theorem EvR.old {e : Ev} (h : EvR w S cs e) {B : Nat} (hB : w.heap.size ≤ B) : EvR w (· < B) cs e := h.weak fun _ _ hb => Nat.lt_of_lt_of_le hb hB
theorem EvR.grown {e : Ev} {row : Option Nat} (h : EvR w S cs e) (hg : w.grownBy w' row) (hr : ∀ b, S b → row ≠ some b) : EvR w' S cs e := by
  obtain ⟨vp, vq, va, vd, vu, vk, rfl, h1, h2, h3, h4, h5, h6⟩ := h
  exact ⟨vp, vq, va, vd, vu, vk, rfl, h1.grown hg hr, h2.grown hg hr, h3.grown hg hr, h4.grown hg hr, h5.grown hg hr, h6.grown hg hr⟩
theorem EvR.length {e : Ev} (h : EvR w S cs e) : cs.length = 29 := by obtain ⟨_, _, _, _, _, _, rfl, _⟩ := h; rfl
theorem EvR.one {e : Ev} (h : EvR w S cs e) : ∀ u ∈ cs, u.oneCell' = true := by
  obtain ⟨vp, vq, va, vd, vu, vk, rfl, h1, h2, h3, h4, h5, h6⟩ := h
  intro u hu
  simp only [evCells, conCells, levCells, List.cons_append, List.nil_append, List.mem_cons, List.not_mem_nil, or_false] at hu
  rcases hu with rfl | rfl | rfl | rfl | rfl | rfl | rfl | rfl | rfl | rfl | rfl | rfl | rfl | rfl | rfl | rfl | rfl | rfl | rfl | rfl | rfl | rfl | rfl | rfl | rfl | rfl | rfl | rfl | rfl <;>
    first | rfl | exact h1.one | exact h2.one | exact h3.one | exact h4.one | exact h5.one | exact h6.one
/-- the content within an event -/
theorem EvR.con {e : Ev} (h : EvR w S cs e) : ConR w S ((cs.drop 10).take 16) e.con := by
  obtain ⟨vp, vq, va, vd, vu, vk, rfl, h1, h2, h3, h4, h5, h6⟩ := h
  exact ⟨va, vd, vu, vk, rfl, h3, h4, h5, h6⟩
theorem ConR.lev {c : Con} (h : ConR w S cs c) : LevR w S (cs.drop 7) c.lv := by
  obtain ⟨va, vd, vu, vk, rfl, h1, h2, h3, h4⟩ := h
  exact ⟨vu, vk, rfl, h3, h4⟩
/-- an event with another content -/
theorem EvR.withCon {e : Ev} (h : EvR w S cs e) {cs' : List Value} {c : Con} (h' : ConR w S cs' c) : EvR w S (cs.take 10 ++ (cs' ++ cs.drop 26)) { e with con := c } := by
  obtain ⟨vp, vq, va, vd, vu, vk, rfl, h1, h2, h3, h4, h5, h6⟩ := h
  obtain ⟨va', vd', vu', vk', rfl, k1, k2, k3, k4⟩ := h'
  exact ⟨vp, vq, va', vd', vu', vk', rfl, h1, h2, k1, k2, k3, k4⟩
end

/-! ### Lists of elements of k cells -/
/-- what lies in each -/
def Told {α : Type} (R : List Value → α → Prop) : List (List Value) → List α → Prop
  | [], [] => True
  | c :: cs, x :: xs => R c x ∧ Told R cs xs
  | _, _ => False
section
variable {α : Type} {R R' : List Value → α → Prop}
theorem Told.length : ∀ {css : List (List Value)} {l : List α}, Told R css l → css.length = l.length
  | [], [], _ => rfl
  | _ :: _, _ :: _, h => by simp [Told.length h.2]
  | [], _ :: _, h => h.elim
  | _ :: _, [], h => h.elim
theorem Told.imp (f : ∀ c x, R c x → R' c x) : ∀ {css : List (List Value)} {l : List α}, Told R css l → Told R' css l
  | [], [], _ => trivial
  | _ :: _, _ :: _, h => ⟨f _ _ h.1, Told.imp f h.2⟩
  | [], _ :: _, h => h.elim
  | _ :: _, [], h => h.elim
theorem Told.append : ∀ {c1 c2 : List (List Value)} {l1 l2 : List α}, Told R c1 l1 → Told R c2 l2 → Told R (c1 ++ c2) (l1 ++ l2)
  | [], _, [], _, _, k => k
  | _ :: _, _, _ :: _, _, h, k => ⟨h.1, Told.append h.2 k⟩
  | [], _, _ :: _, _, h, _ => h.elim
  | _ :: _, _, [], _, h, _ => h.elim
theorem Told.get : ∀ {css : List (List Value)} {l : List α}, Told R css l → ∀ (k : Nat) (h1 : k < css.length) (h2 : k < l.length), R css[k] l[k]
  | _ :: _, _ :: _, h, 0, _, _ => h.1
  | _ :: _, _ :: _, h, k + 1, h1, h2 => Told.get h.2 k (by simpa using h1) (by simpa using h2)
  | [], _ :: _, h, _, _, _ => h.elim
  | _ :: _, [], h, _, _, _ => h.elim
theorem Told.drop : ∀ {css : List (List Value)} {l : List α} (k : Nat), Told R css l → Told R (css.drop k) (l.drop k)
  | _, _, 0, h => h
  | [], [], _ + 1, h => h
  | _ :: _, _ :: _, k + 1, h => Told.drop k h.2
  | [], _ :: _, _ + 1, h => h.elim
  | _ :: _, [], _ + 1, h => h.elim
theorem Told.take : ∀ {css : List (List Value)} {l : List α} (k : Nat), Told R css l → Told R (css.take k) (l.take k)
  | _, _, 0, h => by simp [Told]
  | [], [], _ + 1, h => h
  | _ :: _, _ :: _, k + 1, h => ⟨h.1, Told.take k h.2⟩
  | [], _ :: _, _ + 1, h => h.elim
  | _ :: _, [], _ + 1, h => h.elim
theorem Told.one {c : List Value} {x : α} (h : R c x) : Told R [c] [x] := ⟨h, trivial⟩
theorem Told.nil : Told R [] [] := trivial
theorem Told.set : ∀ {css : List (List Value)} {l : List α} (k : Nat) {c : List Value} {x : α}, Told R css l → R c x → Told R (css.set k c) (l.set k x)
  | [], [], _, _, _, h, _ => h
  | _ :: _, _ :: _, 0, _, _, h, k => ⟨k, h.2⟩
  | _ :: _, _ :: _, i + 1, _, _, h, k => ⟨h.1, Told.set i h.2 k⟩
  | [], _ :: _, _, _, _, h, _ => h.elim
  | _ :: _, [], _, _, _, h, _ => h.elim
/-- all of one size -/
theorem Told.size {k : Nat} (f : ∀ c x, R c x → c.length = k) : ∀ {css : List (List Value)} {l : List α}, Told R css l → ∀ c ∈ css, c.length = k
  | _ :: _, _ :: _, h, c, hc => by
    rcases List.mem_cons.1 hc with rfl | hc
    · exact f _ _ h.1
    · exact Told.size f h.2 c hc
  | [], _, _, _, hc => by simp at hc
  | _ :: _, [], h, _, _ => h.elim
end
theorem flat_length {k : Nat} : ∀ {css : List (List Value)}, (∀ c ∈ css, c.length = k) → css.flatten.length = css.length * k
  | [], _ => by simp
  | c :: css, h => by
    have h1 := h c (by simp)
    have h2 := flat_length (k := k) (css := css) fun d hd => h d (List.mem_cons_of_mem _ hd)
    simp only [List.flatten_cons, List.length_append, List.length_cons, Nat.succ_mul]
    omega
theorem flat_take {k : Nat} : ∀ {css : List (List Value)} (n : Nat), (∀ c ∈ css, c.length = k) → css.flatten.take (n * k) = (css.take n).flatten
  | _, 0, _ => by simp
  | [], n + 1, _ => by simp
  | c :: css, n + 1, h => by
    have hc := h c (by simp)
    simp only [List.flatten_cons, List.take_succ_cons, Nat.succ_mul]
    rw [List.take_append, List.take_of_length_le (by omega), hc, Nat.add_sub_cancel, flat_take n fun d hd => h d (List.mem_cons_of_mem _ hd)]
theorem flat_drop {k : Nat} : ∀ {css : List (List Value)} (n : Nat), (∀ c ∈ css, c.length = k) → css.flatten.drop (n * k) = (css.drop n).flatten
  | _, 0, _ => by simp
  | [], n + 1, _ => by simp
  | c :: css, n + 1, h => by
    have hc := h c (by simp)
    simp only [List.flatten_cons, List.drop_succ_cons, Nat.succ_mul]
    rw [List.drop_append, List.drop_eq_nil_of_le (by omega), hc, Nat.add_sub_cancel, flat_drop n fun d hd => h d (List.mem_cons_of_mem _ hd), List.nil_append]
theorem flat_get {k : Nat} {css : List (List Value)} (h : ∀ c ∈ css, c.length = k) (n : Nat) (hn : n < css.length) (j : Nat) (hj : j < k) : css.flatten[n * k + j]? = css[n][j]? := by
  have h1 := flat_drop n h
  have h2 : css.flatten[n * k + j]? = (css.flatten.drop (n * k))[j]? := by rw [List.getElem?_drop]
  rw [h2, h1, List.drop_eq_getElem_cons hn, List.flatten_cons, List.getElem?_append_left (by rw [h _ (List.getElem_mem hn)]; exact hj)]

/-! ### A slice of events -/
def EvsR (w : World) (S : Nat → Prop) (v : Value) (l : List Ev) : Prop := ∃ css, Slc w Any v 29 l.length css.flatten ∧ Told (EvR w S) css l
theorem EvsR.ext {w w' : World} {S : Nat → Prop} {v : Value} {l : List Ev} (h : EvsR w S v l) (k : Below w.heap.size w w') : EvsR w' S v l := by
  obtain ⟨css, h1, h2⟩ := h
  exact ⟨css, h1.ext k, h2.imp fun _ _ h => h.ext k⟩
theorem EvsR.weak {w : World} {S S' : Nat → Prop} {v : Value} {l : List Ev} (h : EvsR w S v l) (hS : ∀ b, S b → b < w.heap.size → S' b) : EvsR w S' v l := by
  obtain ⟨css, h1, h2⟩ := h
  exact ⟨css, h1, h2.imp fun _ _ h => h.weak hS⟩
theorem EvsR.any {w : World} {S : Nat → Prop} {v : Value} {l : List Ev} (h : EvsR w S v l) : EvsR w Any v l := h.weak fun _ _ _ => trivial
theorem EvsR.form {w : World} {S : Nat → Prop} {v : Value} {l : List Ev} (h : EvsR w S v l) : ∃ A c css, v = .slice A l.length c ∧ l.length ≤ c ∧ c ≤ maxLen ∧ (A = none → l.length = 0) ∧ Row w w.heap.size A css.flatten ∧ Told (EvR w S) css l := by
  obtain ⟨css, h1, h2⟩ := h
  obtain ⟨A, c, rfl, h3, h4, h5, h6, _⟩ := h1.form
  exact ⟨A, c, css, rfl, h3, h4, h5, h6, h2⟩
theorem EvsR.nil (w : World) (S : Nat → Prop) : EvsR w S (.slice none 0 0) [] := ⟨[], Slc.nil w Any 29, Told.nil⟩
theorem EvR.some0 {w : World} {S : Nat → Prop} {cs : List Value} {e : Ev} (h : EvR w S cs e) : cs[0]? = some (.int .i64 e.id) := by obtain ⟨_, _, _, _, _, _, rfl, _⟩ := h; rfl
theorem EvR.some3 {w : World} {S : Nat → Prop} {cs : List Value} {e : Ev} (h : EvR w S cs e) : cs[3]? = some (.int .i64 e.kind) := by obtain ⟨_, _, _, _, _, _, rfl, _⟩ := h; rfl
theorem EvR.some5 {w : World} {S : Nat → Prop} {cs : List Value} {e : Ev} (h : EvR w S cs e) : cs[5]? = some (.string e.key) := by obtain ⟨_, _, _, _, _, _, rfl, _⟩ := h; rfl
theorem EvR.some1 {w : World} {S : Nat → Prop} {cs : List Value} {e : Ev} (h : EvR w S cs e) : cs[1]? = some (.string e.room) := by obtain ⟨_, _, _, _, _, _, rfl, _⟩ := h; rfl
/-- element k of a row of events: where it lies, and what it tells -/
theorem evs_at {w : World} {S : Nat → Prop} {A : Option Addr} {css : List (List Value)} {l : List Ev} (hr : Row w w.heap.size A css.flatten) (ht : Told (EvR w S) css l) (k : Nat) (hk : k < l.length) :
    ∃ b o cs, A = some ⟨b, o, none⟩ ∧ b < w.heap.size ∧ EvR w S cs l[k] ∧ css[k]? = some cs ∧ ∀ j u, cs[j]? = some u → w.cell? ⟨b, o + k * 29 + j, none⟩ = some u := by
  have hl := ht.length
  have hk2 : k < css.length := by omega
  have hsz := Told.size (k := 29) (fun c x (h : EvR w S c x) => h.length) ht
  have hg := fun j (hj : j < 29) => flat_get hsz k hk2 j hj
  have he := ht.get k hk2 hk
  have h0 : css.flatten[k * 29 + 0]? = some (.int .i64 l[k].id) := by rw [hg 0 (by decide)]; exact he.some0
  obtain ⟨b, o, rfl, hb, hc⟩ := hr.fix h0
  refine ⟨b, o, css[k], rfl, hb, he, by simp [hk2], fun j u hu => ?_⟩
  have hj : j < 29 := by
    have := (List.getElem?_eq_some_iff.1 hu).1
    have := he.length
    omega
  rw [Nat.add_assoc]
  exact hc _ _ (by rw [hg j hj]; exact hu)
end Go.Proofs.YtmlnmcoophnlaaaGreat

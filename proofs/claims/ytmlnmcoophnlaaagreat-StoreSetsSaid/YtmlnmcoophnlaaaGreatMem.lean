/-
  Memory: rows of cells that are read, rows that a call owns, and the laws of a walk for make, append and copy in these words. No function of the program; no condition.
  Strings and rows of bytes. No function of the program; no condition.
-/
import Derived.WalkKit
import Derived.WalkSpells
import Derived.WalkLawsBesides
import Derived.Test.YtmlnmcoophnlaaaGreatEnc
import Derived.Laws.IdiomStrings
set_option linter.unusedVariables false
set_option linter.unusedSimpArgs false
namespace Go.Proofs.YtmlnmcoophnlaaaGreat
section
open Go.RowKit

theorem hide {p : Prop} (h : p) : Hid p := h

/-- a term under a name of its own, the equation hidden -/
theorem named {α : Type} (x : α) : ∃ y, y = x ∧ Hid (y = x) := ⟨x, rfl, rfl⟩

/-! ### Addresses -/
theorem block_of_add (a : Addr) (n : Nat) : (a.add n).block = a.block := by
  by_cases h : n = 0 <;> simp [Addr.add, h]
theorem add_of_add (a : Addr) (i j : Nat) : (a.add i).add j = a.add (i + j) := by
  by_cases hi : i = 0 <;> by_cases hj : j = 0 <;> simp [Addr.add, hi, hj, Nat.add_assoc]

/-! ### Cells that are read: the cells xs stand at A, in a block below B -/
def Row (w : World) (B : Nat) (A : Option Addr) (xs : List Value) : Prop :=
  xs ≠ [] → ∃ ad, A = some ad ∧ ad.block < B ∧ ∀ j u, xs[j]? = some u → w.cell? (ad.add j) = some u

section
variable {w w' : World} {B B' : Nat} {A : Option Addr} {xs : List Value}
theorem Row.nil : Row w B A [] := fun h => absurd rfl h
theorem Row.keep (h : Row w B A xs) (hk : ∀ p : Addr, p.block < B → w'.cell? p = w.cell? p) : Row w' B A xs := fun hn => by
  obtain ⟨ad, e, hb, hc⟩ := h hn
  exact ⟨ad, e, hb, fun j u hu => by rw [hk _ (by rw [block_of_add]; exact hb)]; exact hc j u hu⟩
theorem Row.more (h : Row w B A xs) (hB : B ≤ B') : Row w B' A xs := fun hn => by
  obtain ⟨ad, e, hb, hc⟩ := h hn
  exact ⟨ad, e, by omega, hc⟩
theorem Row.below (h : Row w B A xs) (hb : Below B w w') : Row w' B A xs := h.keep fun _ hp => hb.cell hp
theorem Row.upto {C : Nat} (h : Row w B A xs) (hb : Below C w w') (hC : B ≤ C) : Row w' B A xs := h.below (hb.mono hC)
theorem Row.grown {row : Option Nat} (h : Row w B A xs) (hg : w.grownBy w' row) (hB : B ≤ w.heap.size) (hr : ∀ k, row = some k → B ≤ k) : Row w' B A xs :=
  h.below ((Below.refl B w).grown hg hB hr)
/-- one cell of it -/
theorem Row.at (h : Row w B A xs) {k : Nat} {u : Value} (hk : xs[k]? = some u) : ∃ ad, A = some ad ∧ ad.block < B ∧ w.cell? (ad.add k) = some u := by
  obtain ⟨ad, e, hb, hc⟩ := h (by rintro rfl; simp at hk)
  exact ⟨ad, e, hb, hc k u hk⟩
/-- behind the head: 's[k:]', size cells an element -/
theorem Row.cut (h : Row w B A xs) {size n k cap : Nat} (hl : xs.length = n * size) (hc : n ≤ cap) :
    Row w B (if cap = k then A else A.map (·.add (k * size))) (xs.drop (k * size)) := fun hn => by
  have hlt : k * size < xs.length := by
    rcases Nat.lt_or_ge (k * size) xs.length with h1 | h1
    · exact h1
    · exact absurd (List.drop_eq_nil_of_le h1) hn
  have hkn : k < n := by
    rcases Nat.lt_or_ge k n with h1 | h1
    · exact h1
    · have := Nat.mul_le_mul_right size h1; omega
  obtain ⟨ad, rfl, hb, hcell⟩ := h (by intro e; simp [e] at hlt)
  rw [if_neg (by omega)]
  refine ⟨ad.add (k * size), rfl, by rw [block_of_add]; exact hb, fun j u hu => ?_⟩
  rw [add_of_add]
  exact hcell _ u (by rw [← hu, List.getElem?_drop])
/-- the first cells of it -/
theorem Row.take (h : Row w B A xs) (k : Nat) : Row w B A (xs.take k) := fun hn => by
  obtain ⟨ad, e, hb, hc⟩ := h (by rintro rfl; simp at hn)
  refine ⟨ad, e, hb, fun j u hu => hc j u ?_⟩
  rw [List.getElem?_take] at hu
  split at hu
  · exact hu
  · cases hu
/-- a new block that was laid with these cells -/
theorem Row.new (w : World) (cs : Array Value) (e : TypeId) (fr : Nat × Nat) (hB : w.heap.size < B) : Row (w.alloc (.cells cs e fr)) B (some ⟨w.heap.size, 0, none⟩) cs.toList := fun _ => by
  refine ⟨_, rfl, hB, fun j u hu => ?_⟩
  have h0 : (⟨w.heap.size, 0, none⟩ : Addr).add j = ⟨w.heap.size, j, none⟩ := by by_cases hj : j = 0 <;> simp [Addr.add, hj]
  rw [h0, cell_of_row _ _ j cs e fr (heap_alloc_new w _)]
  simpa using hu
/-- what a call owns can be read -/
theorem Row.own {base : Nat} {e : TypeId} {size n c : Nat} (h : w.ownsRow base e size (.slice A n c) n xs) : Row w w.heap.size A xs := fun hn => by
  have hpos : 0 < n := by
    rcases Nat.eq_zero_or_pos n with h0 | h0
    · subst h0
      exact absurd (List.eq_nil_of_length_eq_zero (by simpa using h.1)) hn
    · exact h0
  rcases h.2 with ⟨hv, _⟩ | ⟨g, cap, cur, hv, _, hg, _⟩
  · injection hv with _ h2; omega
  · injection hv with h1 _ _
    subst h1
    exact ⟨_, rfl, (Array.getElem?_eq_some_iff.1 hg).1, h.cells (g := g) rfl⟩
end

/-! ### All blocks of a are as they were in b: what is known of a holds in b -/
section
variable {a b c : World}
theorem ext_refl (a : World) : Below a.heap.size a a := Below.refl _ _
theorem ext_trans (h : Below a.heap.size a b) (k : Below b.heap.size b c) : Below a.heap.size a c := h.trans (k.mono h.size)
theorem ext_alloc (h : Below a.heap.size a b) (o : Obj) : Below a.heap.size a (b.alloc o) := h.alloc h.size o
theorem ext_drew (h : Below a.heap.size a b) : Below a.heap.size a b.drew := h.drew
theorem Row.ext {A : Option Addr} {xs : List Value} (h : Row a a.heap.size A xs) (k : Below a.heap.size a b) : Row b b.heap.size A xs := (h.below k).more k.size
theorem Row.fresh {B : Nat} {A : Option Addr} {xs : List Value} (h : Row a B A xs) (hB : B ≤ a.heap.size) : Row a a.heap.size A xs := h.more hB
/-- new cells that were laid in one block -/
theorem row_lit (w : World) (xs : List Value) (cs : Array Value) (e : TypeId) {g : Nat} (hg : g = w.heap.size) (hcs : cs.toList = xs) : Row (w.alloc (.cells cs e)) (w.alloc (.cells cs e)).heap.size (some ⟨g, 0, none⟩) xs := by
  rw [← hcs, hg]; exact Row.new w cs _ _ (by simp)
theorem row_alloc {A : Option Addr} {xs : List Value} (h : Row a a.heap.size A xs) (o : Obj) : Row (a.alloc o) (a.alloc o).heap.size A xs := h.ext (ext_alloc (ext_refl a) o)
end

/-! ### A block that is known whole: a struct in a variable -/
def Box (w : World) (g : Nat) (cs : Array Value) (t : TypeId) : Prop := w.heap[g]? = some (.cells cs t (0, 0))
section
variable {w w' : World} {g : Nat} {cs : Array Value} {t : TypeId}
theorem Box.lt (h : Box w g cs t) : g < w.heap.size := (Array.getElem?_eq_some_iff.1 h).1
theorem Box.cell (h : Box w g cs t) {j : Nat} {v : Value} (hj : cs[j]? = some v) : w.cell? ⟨g, j, none⟩ = some v := by rw [cell_of_row w g j cs t (0, 0) h]; exact hj
theorem Box.frozen (h : Box w g cs t) (j : Nat) : w.frozen? ⟨g, j, none⟩ = false := frozen_of_row w g j cs t h
theorem Box.new (w : World) (cs : Array Value) (t : TypeId) : Box (w.alloc (.cells cs t)) w.heap.size cs t := heap_alloc_new w _
theorem Box.ext (h : Box w g cs t) (k : Below w.heap.size w w') : Box w' g cs t := (k.block g h.lt).trans h
theorem Box.drew (h : Box w g cs t) : Box w.drew g cs t := h
theorem Box.alloc (h : Box w g cs t) (o : Obj) : Box (w.alloc o) g cs t := h.ext (Below.alloc (Below.refl _ _) (Nat.le_refl _) o)
end

/-! ### Rows that a call owns -/
/-- An element type, and the slice type over it. -/
structure Elem (P : Program) (t e : TypeId) (z : Value) (size bytes : Nat) : Prop where
  under : P.underlying t = some (.slice e)
  info : (P.info? e).map (fun i => (i.zero, i.size, i.bytes)) = some (some z, size, bytes)
  zero : z.cells.size = size
  pos : 0 < size

section
variable {w w' : World} {base : Nat} {e : TypeId} {size n : Nat} {v : Value} {xs : List Value}
/-- '[]T{}' -/
theorem own_empty (w : World) (e : TypeId) (size : Nat) : (w.alloc (.cells #[] e)).ownsRow w.heap.size e size (.slice (some ⟨w.heap.size, 0, none⟩) 0 0) 0 [] :=
  World.ownsRow_lit w #[] 0 (Nat.le_refl _) (by decide) (by simp)
/-- an owned row is a slice, its capacity not below its length -/
theorem own_form (h : w.ownsRow base e size v n xs) : ∃ A c, v = .slice A n c ∧ n ≤ c ∧ c ≤ maxLen := by
  rcases h.2 with ⟨rfl, rfl⟩ | ⟨g, cap, cur, rfl, _, _, h1, h2, _⟩
  · exact ⟨none, 0, rfl, Nat.le_refl _, Nat.zero_le _⟩
  · exact ⟨_, cap, rfl, h1, h2⟩
theorem own_more {base' : Nat} (h : w.ownsRow base e size v n xs) (hb : base' ≤ base) : w.ownsRow base' e size v n xs := by
  refine ⟨h.1, ?_⟩
  rcases h.2 with h2 | ⟨g, cap, cur, hv, hg, r⟩
  · exact .inl h2
  · exact .inr ⟨g, cap, cur, hv, Nat.le_trans hb hg, r⟩
/-- kept where all blocks that were there stay as they were -/
theorem own_below (h : w.ownsRow base e size v n xs) (hb : Below w.heap.size w w') : w'.ownsRow base e size v n xs := by
  refine ⟨h.1, ?_⟩
  rcases h.2 with h2 | ⟨g, cap, cur, hv, hg, hh, r⟩
  · exact .inl h2
  · exact .inr ⟨g, cap, cur, hv, hg, by rw [hb.block g (Array.getElem?_eq_some_iff.1 hh).1]; exact hh, r⟩
/-- what an append leaves, below base -/
theorem below_of_own {B : Nat} {w0 : World} (hb : Below B w0 w) (h : w.ownsRow base e size v n xs) (hg : w.grownBy w' v.ownBlock) (hB : B ≤ w.heap.size) (hBb : B ≤ base) : Below B w0 w' :=
  hb.grown hg hB fun k hk => Nat.le_trans hBb (h.lt k hk).1
end

section
variable {P : Program} {w : World} {ops : Array Oper} {rest : List Oper} {o : Oper} {a : Act} {Q : Exit → Act → World → Prop} {t e : TypeId} {z : Value} {size bytes : Nat}

/-- an operation that is carried out (unguarded, or its guard says so) -/
theorem wpList_wanted (hgd : Region.wanted o (yielded ops a.tmps) = true) (h : ∀ K : Act → World → Prop, (∀ a w, wpList P ops Q rest a w → K a w) → o.wp P a w K Q) : wpList P ops Q (o :: rest) a w :=
  wpList_step fun K hK => by rw [if_pos hgd]; exact h K hK

/-- 'append(out, x, y)': the elements were laid in a new block right before. -/
theorem wpList_append_new (hgd : Region.wanted o (yielded ops a.tmps) = true) (s x : Operand) (ho : o.op = .call { callee := .builtin .append, args := #[s, x], argTypes := #[t, t] })
    (E : Elem P t e z size bytes) (base : Nat) (v : Value) (n : Nat) (xs : List Value) (hs : a.eval s = v) (hown : w.ownsRow base e size v n xs) (m : Nat) (cs : Array Value) (hcs : cs.size = m * size)
    (hx : a.eval x = .slice (some ⟨w.heap.size, 0, none⟩) m m) (h1 : ∀ u ∈ cs.toList, u.oneCell' = true) (hm : 0 < m) (hlen : n + m ≤ maxLen) (hby : (n + m) * bytes ≤ 140737488355328) (hbase : base ≤ w.heap.size)
    (h : ∀ v' w', w'.ownsRow base e size v' (n + m) (xs ++ cs.toList) → w.grownBy w' v.ownBlock → wpList P ops Q rest (a.put o.dst v') w') :
    wpList P ops Q (o :: rest) a (w.alloc (.cells cs e)) := by
  obtain ⟨i, hi, hz0, hz1, hz2⟩ := info_parts E.info
  refine wpList_wanted hgd fun K hK' => wp_append_own _ s x t ho base e i z size bytes E.under hi hz0 hz1 hz2 E.zero E.pos v n xs hs (hown.alloc _) ⟨w.heap.size, 0, none⟩ m m cs.toList hx (by simpa using hcs) ?_ h1 hlen hby (Nat.le_trans hbase (by simp)) ?_
  · exact fun j u hu => by
      obtain ⟨ad, h1, _, h2⟩ := (Row.new (B := w.heap.size + 1) w cs e (0, 0) (by omega)).at hu
      injection h1 with h1; subst h1; exact h2
  · intro v' w' h1 h2 _
    exact hK' _ _ (h v' w' h1 ⟨h2.os, h2.tape, h2.output, Nat.le_trans (by simp) h2.size, fun k hk hne => (h2.block k (by simp; omega) hne).trans (heap_alloc_old w _ hk)⟩)

/-- 'append(out, l...)': the elements lie in a row that is read. -/
theorem wpList_append_row (hgd : Region.wanted o (yielded ops a.tmps) = true) (s x : Operand) (ho : o.op = .call { callee := .builtin .append, args := #[s, x], argTypes := #[t, t] })
    (E : Elem P t e z size bytes) (base : Nat) (v : Value) (n : Nat) (xs : List Value) (hs : a.eval s = v) (hown : w.ownsRow base e size v n xs) (B m c : Nat) (A : Option Addr) (cs : List Value) (hcs : cs.length = m * size)
    (hx : a.eval x = .slice A m c) (hrow : Row w B A cs) (hAc : A = none → m = 0) (h1 : ∀ u ∈ cs, u.oneCell' = true) (hlen : n + m ≤ maxLen) (hby : (n + m) * bytes ≤ 140737488355328) (hbase : base ≤ w.heap.size)
    (h : ∀ v' w', w'.ownsRow base e size v' (n + m) (xs ++ cs) → w.grownBy w' v.ownBlock → wpList P ops Q rest (a.put o.dst v') w') :
    wpList P ops Q (o :: rest) a w := by
  obtain ⟨i, hi, hz0, hz1, hz2⟩ := info_parts E.info
  rcases A with _ | ad
  · obtain rfl := hAc rfl
    have hn : cs = [] := List.eq_nil_of_length_eq_zero (by simpa using hcs)
    subst hn
    refine wpList_wanted hgd fun K hK' => ?_
    have hrun : (Builtin.append_ #[t, t] o.type #[v, .slice none 0 c]).run P w = .ok v w := by
      rcases hown.2 with ⟨rfl, rfl⟩ | ⟨g, cap, cur, rfl, _, _, hnc, _⟩
      · simp [Builtin.append_, run_underlying E.under, sizeOf, typeInfo, hi, Builtin.lenOf, Builtin.firstCells]
      · simp [Builtin.append_, run_underlying E.under, sizeOf, typeInfo, hi, Builtin.lenOf, Builtin.firstCells, hnc, storeCells]
    unfold Oper.wp
    simp [execOp, ho, resolve, invoke, builtin, hs, hx, hrun, Result.andThen]
    exact hK' _ _ (by simpa using h v w (by simpa using hown) (World.grownBy.refl _ _))
  · refine wpList_wanted hgd fun K hK' => wp_append_own _ s x t ho base e i z size bytes E.under hi hz0 hz1 hz2 E.zero E.pos v n xs hs hown ad m c cs hx hcs ?_ h1 hlen hby hbase ?_
    · exact fun j u hu => by
        obtain ⟨ad', h1, _, h2⟩ := hrow.at hu
        injection h1 with h1; subst h1; exact h2
    · intro v' w' h1 h2 _
      exact hK' _ _ (h v' w' h1 h2)

/-- 'make([]T, n, c)' -/
theorem wpList_make (hgd : Region.wanted o (yielded ops a.tmps) = true) (l c : Operand) (ho : o.op = Op.makeSlice t l c) (E : Elem P t e z size bytes) (base : Nat) (kl kc : IntKind) (L C : Int) (n m : Nat) (hl : a.eval l = .int kl L) (hc : a.eval c = .int kc C)
    (hL : L = (n : Int)) (hC : C = (m : Int)) (hnm : n ≤ m) (hby : m * bytes ≤ 281474976710656) (hm : m ≤ maxLen) (hbase : base ≤ w.heap.size)
    (h : ∀ g w', g = w.heap.size → w'.ownsRow base e size (.slice (some ⟨g, 0, none⟩) n m) n (madeCells z.cells (n * size)).toList → w.grownBy w' none → w'.heap.size = g + 1 →
      wpList P ops Q rest (a.put o.dst (.slice (some ⟨g, 0, none⟩) n m)) w') : wpList P ops Q (o :: rest) a w := by
  obtain ⟨i, hi, hz0, hz1, hz2⟩ := info_parts E.info
  subst hL hC hz1 hz2
  have h63 : m ≤ 9223372036854775807 := hm
  have hb' : (i.bytes : Int) * (m : Int) ≤ 281474976710656 := by
    rw [← Int.natCast_mul, Nat.mul_comm]; omega
  have hr := run_make (P := P) w t e i z E.under hi hz0 kl kc n m (by omega) (by omega) hb' (by omega)
  simp only [Int.toNat_natCast] at hr
  refine wpList_wanted hgd fun K hK' => ?_
  unfold Oper.wp
  simp [execOp, ho, hl, hc, hr, Result.andThen]
  refine hK' _ _ (h _ _ rfl ⟨by simp [size_madeCells], .inr ⟨_, m, _, rfl, hbase, heap_alloc_new w _, hnm, hm, size_madeCells _ _, ?_⟩⟩ (World.grownBy_alloc w _ none) (by simp))
  have hle : n * i.size ≤ m * i.size := Nat.mul_le_mul_right _ hnm
  apply List.ext_getElem?
  intro j
  by_cases hj : j < n * i.size
  · simp [madeCells, hj]
    rw [List.getElem?_eq_getElem (by simp; omega)]
    simp
  · simp [madeCells, hj]
    rw [Nat.min_eq_left hnm]; omega

/-- the cells of a row, some of them overwritten -/
def patch (xs : List Value) (off : Nat) (cs : List Value) : List Value := xs.take off ++ (cs ++ xs.drop (off + cs.length))
theorem patch_length (xs : List Value) (off : Nat) (cs : List Value) (h : off + cs.length ≤ xs.length) : (patch xs off cs).length = xs.length := by simp [patch]; omega
theorem patch_all (xs cs : List Value) (h : cs.length = xs.length) : patch xs 0 cs = cs := by simp [patch, h]

theorem take_patch (L cs : List Value) (a m : Nat) (h : a + cs.length ≤ m) : (patch L a cs).take m = patch (L.take m) a cs := by
  unfold patch
  rw [List.take_take, Nat.min_eq_left (by omega), List.drop_take]
  by_cases hL : a ≤ L.length
  · rw [List.take_append, List.take_append, List.take_of_length_le (l := L.take a) (by simp; omega), List.take_of_length_le (l := cs) (by simp; omega)]
    simp only [List.length_take]
    congr 3
    omega
  · rw [List.drop_eq_nil_of_le (as := L) (by omega)]
    simp
    rw [List.take_of_length_le (by simp; omega)]

/-- 'copy(out[off:], l)' into a row that the call owns, whatever the number of cells of an element; k elements go over. -/
theorem wpList_copy (hgd : Region.wanted o (yielded ops a.tmps) = true) (d s : Operand) (sT : TypeId) (ho : o.op = .call { callee := .builtin .copy, args := #[d, s], argTypes := #[t, sT] }) (E : Elem P t e z size bytes)
    (base g n cap : Nat) (xs : List Value) (hown : w.ownsRow base e size (.slice (some ⟨g, 0, none⟩) n cap) n xs) (off : Nat) (D : Option Addr) (dLen dCap : Nat) (hd : a.eval d = .slice D dLen dCap)
    (B : Nat) (A : Option Addr) (sLen sCap k : Nat) (cs : List Value) (hs : a.eval s = .slice A sLen sCap) (hk : min sLen dLen = k) (hcs : cs.length = k * size) (hrow : Row w B A cs) (h1 : ∀ u ∈ cs, u.oneCell' = true)
    (hfit : off + dLen ≤ n) (hD : 0 < k → D = some ((⟨g, 0, none⟩ : Addr).add (off * size)))
    (h : ∀ w', w'.ownsRow base e size (.slice (some ⟨g, 0, none⟩) n cap) n (patch xs (off * size) cs) → w.grownBy w' (some g) → wpList P ops Q rest (a.put o.dst (goInt (k : Int))) w') :
    wpList P ops Q (o :: rest) a w := by
  obtain ⟨i, hi, hz0, hz1, hz2⟩ := info_parts E.info
  refine wpList_wanted hgd fun K hK' => ?_
  have hkd : k ≤ dLen := by omega
  have hmin : Nat.min sLen dLen = k := hk
  rcases Nat.eq_zero_or_pos k with h0 | hpos
  · subst h0
    have hcs0 : cs = [] := List.eq_nil_of_length_eq_zero (by simpa using hcs)
    subst hcs0
    have hrun : (Builtin.copy_ #[t, sT] o.type #[.slice D dLen dCap, .slice A sLen sCap]).run P w = .ok (goInt (0 : Int)) w := by
      cases A <;> cases D <;> simp [Builtin.copy_, run_underlying E.under, Builtin.lenOf, sizeOf, typeInfo, hi, hmin, Builtin.firstCells, loadCells, loadCellsFrom, storeCells]
    unfold Oper.wp
    simp only [execOp, ho, resolve, invoke, builtin, Sem.run_bind, Sem.run_pure, Result.andThen_ok, List.map_toArray, List.map_cons, List.map_nil, hd, hs, hrun]
    exact hK' _ _ (h w (by simpa [patch] using hown) (World.grownBy.refl _ _))
  · obtain rfl := hD hpos
    have hne : cs ≠ [] := by
      rintro rfl
      have := Nat.mul_pos hpos E.pos
      simp at hcs
      omega
    obtain ⟨ad, rfl, _, hcell⟩ := hrow hne
    rcases hown.2 with ⟨hv, _⟩ | ⟨g', cap', cur, hv, hb, hg, hnc, hcm, hcz, htake⟩
    · simp at hv
    · simp only [Value.slice.injEq, Option.some.injEq, Addr.mk.injEq, and_true, true_and] at hv
      obtain ⟨rfl, rfl⟩ := hv
      have hmul : (off + k) * size ≤ cap * size := Nat.mul_le_mul_right _ (by omega)
      have hmuln : (off + k) * size ≤ n * size := Nat.mul_le_mul_right _ (by omega)
      rw [Nat.add_mul] at hmul hmuln
      have hl := run_firstCells_some (P := P) w size k ad sLen sCap _ hcs hcell
      have hst := run_storeCells_at P g (off * size) e cs 0 cur w hg (by rw [hcs, hcz]; simpa using hmul) h1
      have had : (⟨g, 0, none⟩ : Addr).add (off * size) = ⟨g, off * size, none⟩ := by by_cases hj : off * size = 0 <;> simp [Addr.add, hj]
      have hrun : (Builtin.copy_ #[t, sT] o.type #[.slice (some ⟨g, off * size, none⟩) dLen dCap, .slice (some ad) sLen sCap]).run P w =
          .ok (goInt (k : Int)) (w.setRow g (cur.toList.take (off * size) ++ cs ++ cur.toList.drop (off * size + cs.length)).toArray) := by
        simp only [Nat.add_zero] at hst
        simp [Builtin.copy_, run_underlying E.under, Builtin.lenOf, sizeOf, typeInfo, hi, hz1, hmin, hl, hst]
      unfold Oper.wp
      rw [had] at hd
      simp only [execOp, ho, resolve, invoke, builtin, Sem.run_bind, Sem.run_pure, Result.andThen_ok, List.map_toArray, List.map_cons, List.map_nil, hd, hs, hrun]
      refine hK' _ _ (h _ ⟨?_, .inr ⟨g, cap, _, rfl, hb, setRow_heap w g cur _ e _ hg, hnc, hcm, ?_, ?_⟩⟩ ⟨rfl, rfl, rfl, by simp, fun k _ hk => setRow_other w g k _ (fun e => hk (by simp [e]))⟩)
      · rw [patch_length _ _ _ (by rw [hcs, hown.1]; exact hmuln), hown.1]
      · have hsz : cur.toList.length = cap * size := by simpa using hcz
        simp only [List.size_toArray, List.length_append, List.length_take, List.length_drop, hsz]
        omega
      · rw [← htake, ← take_patch _ _ _ _ (by omega)]
        simp [patch]
end

/-! ### Cuts of slices -/
/-- the address of 's[k:]' -/
def cutA (A : Option Addr) (c k size : Nat) : Option Addr := if c = k then A else A.map (·.add (k * size))
theorem Row.cutA {w : World} {B : Nat} {A : Option Addr} {xs : List Value} (h : Row w B A xs) {size n k c : Nat} (hl : xs.length = n * size) (hc : n ≤ c) : Row w B (cutA A c k size) (xs.drop (k * size)) := h.cut hl hc
section
variable {P : Program} {t e : TypeId} {z : Value} {size bytes : Nat}
theorem elem_of (E : Elem P t e z size bytes) : P.elem t = e := by simp [Program.elem, E.under]
theorem run_size (E : Elem P t e z size bytes) (w : World) : (sizeOf e).run P w = .ok size w := by
  obtain ⟨i, hi, _, hz1, _⟩ := info_parts E.info
  simp [sizeOf, typeInfo, hi, hz1]
/-- 's[k:]' -/
theorem run_cut (E : Elem P t e z size bytes) (A : Option Addr) (n c k : Nat) (hk : k ≤ n) (w : World) :
    (Instr.slice t (.slice A n c) (some (.int .i64 (k : Int))) none none).run P w = .ok (.slice (cutA A c k size) (n - k) (c - k)) w := by
  have ht : P.underlying t = some (.slice (P.elem t)) := by rw [elem_of E]; exact E.under
  rw [run_slice_l w t A n c ht .i64 k (by omega) (by omega), elem_of E, run_size E]
  simp [Result.andThen, sliced, Go.Proofs.YtmlnmcoophnlaaaGreat.cutA]
/-- 's[:k]' -/
theorem run_head (E : Elem P t e z size bytes) (A : Option Addr) (n c k : Nat) (hk : k ≤ c) (w : World) :
    (Instr.slice t (.slice A n c) none (some (.int .i64 (k : Int))) none).run P w = .ok (.slice A k c) w := by
  have ht : P.underlying t = some (.slice (P.elem t)) := by rw [elem_of E]; exact E.under
  rw [run_slice_h w t A n c ht .i64 k (by omega) (by omega), elem_of E, run_size E]
  cases A <;> simp [Result.andThen, sliced, Addr.add]
/-- 's[j:k]' -/
theorem run_mid (E : Elem P t e z size bytes) (A : Option Addr) (n c j k : Nat) (hj : j ≤ k) (hk : k ≤ c) (w : World) :
    (Instr.slice t (.slice A n c) (some (.int .i64 (j : Int))) (some (.int .i64 (k : Int))) none).run P w = .ok (.slice (cutA A c j size) (k - j) (c - j)) w := by
  have ht : P.underlying t = some (.slice (P.elem t)) := by rw [elem_of E]; exact E.under
  rw [run_slice_lh w t A n c ht .i64 .i64 j k (by omega) (by omega) (by omega), elem_of E, run_size E]
  simp [Result.andThen, sliced, Go.Proofs.YtmlnmcoophnlaaaGreat.cutA]
end
end

section
open Go.RowKit

def str (l : List UInt8) : ByteArray := ⟨l.toArray⟩
theorem str_size (l : List UInt8) : (str l).size = l.length := by simp [str, ByteArray.size]
theorem str_data (l : List UInt8) : (str l).data.toList = l := by simp [str]
theorem str_toList (s : ByteArray) : str s.data.toList = s := rfl
theorem str_inj {a b : List UInt8} (h : str a = str b) : a = b := by rw [← str_data a, ← str_data b, h]

/-- 'string(b)' -/
theorem run_string {P : Program} (w : World) (src dst e : TypeId) (hs : P.underlying src = some (.slice e)) (he : P.underlying e = some (.int .u8)) (hd : P.underlying dst = some .string) {B m c : Nat} {A : Option Addr} {l : List UInt8}
    (hr : Row w B A (bvs l)) (hm : l.length = m) (hA : A = none → m = 0) : (convert src dst (.slice A m c)).run P w = .ok (.string (str l)) w := by
  subst hm
  rcases A with _ | ad
  · have hl : l = [] := List.eq_nil_of_length_eq_zero (hA rfl)
    subst hl
    rw [run_convert_bytes_string w src dst e none _ c hs he hd]
    simp [Conv.bytesToString]; rfl
  · refine run_convert_bytes_back w src dst e ad c l hs he hd fun j hj => ?_
    obtain ⟨ad', h1, _, h2⟩ := hr.at (bvs_get l j hj)
    injection h1 with h1; subst h1; exact h2
theorem row_none {w : World} {B : Nat} {A : Option Addr} {l : List UInt8} (hr : Row w B A (bvs l)) (h : A = none) : l.length = 0 := by
  cases l with
  | nil => rfl
  | cons c r => obtain ⟨ad, h1, _⟩ := hr (by simp [bvs]); rw [h] at h1; cases h1

/-- '[]byte(s)' -/
theorem wpList_to_bytes {P : Program} {w : World} {ops : Array Oper} {rest : List Oper} {o : Oper} {a : Act} {Q : Exit → Act → World → Prop} (hgd : Region.wanted o (yielded ops a.tmps) = true) (x : Operand) (src dst e : TypeId) (ho : o.op = Op.convert src dst x)
    (hs : P.underlying src = some .string) (hd : P.underlying dst = some (.slice e)) (he : P.underlying e = some (.int .u8)) (s : ByteArray) (hx : a.eval x = .string s)
    (h : ∀ A c w', Row w' w'.heap.size A (bvs s.data.toList) → s.size ≤ c → Below w.heap.size w w' → wpList P ops Q rest (a.put o.dst (.slice A s.size c)) w') : wpList P ops Q (o :: rest) a w := by
  refine wpList_wanted hgd fun K hK => ?_
  have hrun := run_bytes_of_string (P := P) w src dst e s hs hd he
  unfold Oper.wp
  simp only [execOp, ho, Sem.run_bind, Sem.run_pure, Result.andThen_ok, hx, hrun]
  refine hK _ _ (h _ _ _ ?_ (grownCap_ge w s.size 0 e) (Below.alloc (Below.refl _ _).drew (Nat.le_refl _) _))
  have h1 := (Row.new (B := (w.drew.alloc (.cells (bytesRow s (grownCap w s.size 0 e)) e ((bytesRow s (grownCap w s.size 0 e)).size, (bytesRow s (grownCap w s.size 0 e)).size + 1))).heap.size) w.drew (bytesRow s (grownCap w s.size 0 e)) e ((bytesRow s (grownCap w s.size 0 e)).size, (bytesRow s (grownCap w s.size 0 e)).size + 1) (by simp)).take s.size
  have h2 : (bytesRow s (grownCap w s.size 0 e)).toList.take s.size = bvs s.data.toList := by
    rw [bytesRow, Array.toList_append, Array.toList_map]
    exact List.take_left' (by rw [List.length_map, Array.length_toList]; rfl)
  rw [h2] at h1
  exact h1
end
end Go.Proofs.YtmlnmcoophnlaaaGreat

/-
  A view in a box at the head of a call's memory: how its fields lie while Apply and Fill run, loads and stores.
  What Apply makes of a view.
-/
import Derived.Test.YtbehflldghhopaaRRedacted
import Derived.Test.YtbehflldghhopaaSmalls
import Derived.Test.YtbehflldghhopaaFreshs
import Derived.Test.YtbehflldghhopaaPhases
import Derived.ArgAppend
set_option linter.unusedVariables false
set_option linter.unusedSimpArgs false
namespace Go.Proofs.Ytbehflldghhopaa
section
open Go.RowKit

theorem elemG : Elem Try.prog 23 55 (.agg #[.int .i64 0, .int .i64 0]) 2 16 := ⟨Try.underlying23, by kernel_rfl, rfl, by decide⟩
theorem strcG : Strc Try.prog 55 #[.int .i64 0, .int .i64 0] 2 := ⟨⟨_, Try.underlying55, rfl⟩, by kernel_rfl, rfl⟩
theorem sizeSl : (Try.prog.info? 22).map (·.size) = some 1 := by kernel_rfl
theorem sizeSg : (Try.prog.info? 23).map (·.size) = some 1 := by kernel_rfl
/-- 's[:k:k]' -/
theorem run_full {P : Program} {t e : TypeId} {z : Value} {size bytes : Nat} (E : Elem P t e z size bytes) (A : Option Addr) (n c k : Nat) (hk : k ≤ c) (w : World) :
    (Instr.slice t (.slice A n c) none (some (.int .i64 (k : Int))) (some (.int .i64 (k : Int)))).run P w = .ok (.slice A k k) w := by
  have ht : P.underlying t = some (.slice (P.elem t)) := by rw [elem_of E]; exact E.under
  rw [run_slice_hm w t A n c ht .i64 .i64 k k (by omega) (by omega) (by omega), elem_of E, run_size E]
  cases A <;> simp [Result.andThen, sliced, Addr.add]

section
variable {P : Program} {w : World} {ops : Array Oper} {rest : List Oper} {o : Oper} {a : Act} {Q : Exit → Act → World → Prop} {t e : TypeId} {z : Value} {size bytes : Nat}
/-- an append to a slice that is full: a new row -/
theorem wpList_append_full (hgd : o.guard = none) (s x : Operand) (ho : o.op = .call { callee := .builtin .append, args := #[s, x], argTypes := #[t, t] })
    (E : Elem P t e z size bytes) (A : Option Addr) (n : Nat) (xs : List Value) (hs : a.eval s = .slice A n n) (hA : A = none → n = 0) (hr : Row w w.heap.size A xs) (hl : xs.length = n * size) (m : Nat) (cs : Array Value) (hcs : cs.size = m * size)
    (hx : a.eval x = .slice (some ⟨w.heap.size, 0, none⟩) m m) (h1 : ∀ u ∈ cs.toList, u.oneCell' = true) (hm : 0 < m) (hlen : n + m ≤ maxLen) (hby : (n + m) * bytes ≤ 140737488355328)
    (h : ∀ v' w', w'.ownsRow w.heap.size e size v' (n + m) (xs ++ cs.toList) → Below w.heap.size w w' → wpList P ops Q rest (a.put o.dst v') w') :
    wpList P ops Q (o :: rest) a (w.alloc (.cells cs e)) := by
  obtain ⟨i, hi, hz0, hz1, hz2⟩ := info_parts E.info
  have hr' := row_alloc hr (.cells cs e)
  refine wpList_append_grows _ hgd s x t ho e i z size bytes E.under hi hz0 hz1 hz2 E.zero E.pos A n n xs hs (fun hn => ⟨hA hn, hA hn⟩) hl ?_ ⟨w.heap.size, 0, none⟩ m m cs.toList hx (by simpa using hcs) ?_ h1 (by omega) hlen hby ?_
  · intro b hb j u hu
    obtain ⟨ad, h1, _, h2⟩ := hr'.at hu
    rw [hb] at h1; injection h1 with h1; subst h1; exact h2
  · intro j u hu
    obtain ⟨ad, h1, _, h2⟩ := (Row.new (B := w.heap.size + 1) w cs e (0, 0) (by omega)).at hu
    injection h1 with h1; subst h1; exact h2
  · intro v' w' h1 h2
    have hb : Below w.heap.size w (w.alloc (.cells cs e)) := ext_alloc (ext_refl w) _
    exact h v' w' (own_more h1 (by simp)) (hb.grown h2 hb.size (fun q hq => by cases hq))
end

/-! ### Fields -/
def S4 (S : Nat → Prop) (b m : Nat) : Nat → Prop := fun x => (S x ∧ x < b) ∨ b + m ≤ x
/-- a field that is as it was, or that lies in a block of the call's own, behind the boxes -/
def FldE (w wx : World) (S : Nat → Prop) (m : Nat) (v : Value) (l : List Ev) : Prop := EvsR w S v l ∨ OwnE (w.heap.size + m) wx (S4 S w.heap.size m) v l
def FldG (w wx : World) (m : Nat) (v : Value) (l : List (Int × Int)) : Prop := Slc w Any v 2 l.length (kcs l) ∨ wx.ownsRow (w.heap.size + m) 55 2 v l.length (kcs l)
section
variable {w wx wy : World} {S : Nat → Prop} {m : Nat} {v : Value} {l : List Ev} {gl : List (Int × Int)}
theorem FldE.get (h : FldE w wx S m v l) (hb : Below w.heap.size w wx) : EvsR wx (S4 S w.heap.size m) v l := by
  rcases h with h | h
  · exact (h.weak (S' := S4 S w.heap.size m) fun b hb hlt => .inl ⟨hb, hlt⟩).ext hb
  · exact h.evs
theorem FldE.one (h : FldE w wx S m v l) : v.oneCell' = true := by
  rcases h with h | h
  · obtain ⟨A, c, _, rfl, _⟩ := h.form; rfl
  · exact OwnE.one h
theorem FldE.ext (h : FldE w wx S m v l) (hb : Below wx.heap.size wx wy) : FldE w wy S m v l := by
  rcases h with h | h
  · exact .inl h
  · exact .inr (h.below hb)
theorem FldE.store {g : Nat} (h : FldE w wx S m v l) (hg : wx.grownBy wy (some g)) (h1 : w.heap.size ≤ g) (h2 : g < w.heap.size + m) : FldE w wy S m v l := by
  rcases h with h | h
  · exact .inl h
  · obtain ⟨css, h3, h4⟩ := h
    refine .inr ⟨css, own_apart h3 hg (fun g' hg' e => ?_), h4.imp fun _ _ h => h.grown hg fun x hx e => ?_⟩
    · have := (h3.lt g' hg').1; injection e with e; omega
    · injection e with e; rcases hx with hx | hx <;> omega
theorem FldG.one (h : FldG w wx m v gl) : v.oneCell' = true := by
  rcases h with h | h
  · obtain ⟨A, c, rfl, _⟩ := h.form; rfl
  · rcases h.2 with ⟨rfl, _⟩ | ⟨g, cap, cur, rfl, _⟩ <;> rfl
theorem FldG.ext (h : FldG w wx m v gl) (hb : Below wx.heap.size wx wy) : FldG w wy m v gl := by
  rcases h with h | h
  · exact .inl h
  · exact .inr (own_below h hb)
theorem FldG.store {g : Nat} (h : FldG w wx m v gl) (hg : wx.grownBy wy (some g)) (h2 : g < w.heap.size + m) : FldG w wy m v gl := by
  rcases h with h | h
  · exact .inl h
  · refine .inr (own_apart h hg fun g' hg' e => ?_)
    have := (h.lt g' hg').1; injection e with e; omega
theorem FldG.get (h : FldG w wx m v gl) (hb : Below w.heap.size w wx) : Slc wx Any v 2 gl.length (kcs gl) := by
  rcases h with h | h
  · exact h.ext hb
  · exact (Slc.own h (by decide)).any
/-- a field's row that was made behind some later block -/
theorem FldE.made {B : Nat} {S' : Nat → Prop} (h : OwnE B wx S' v l) (hB : w.heap.size + m ≤ B) (hS : ∀ x, S' x → x < wx.heap.size → S4 S w.heap.size m x) : FldE w wx S m v l := by
  obtain ⟨css, h1, h2⟩ := h
  exact .inr ⟨css, own_more h1 hB, h2.imp fun _ _ h => h.weak hS⟩
end

/-! ### The boxes -/
structure Fr (w wx : World) (S : Nat → Prop) (m : Nat) (ob : List Obj) (V : Vw) (ve vg vs : Value) : Prop where
  hm : ob.length + 1 = m
  size : w.heap.size + m ≤ wx.heap.size
  box : wx.heap[w.heap.size]? = some (.cells (vwCells V ve vg vs).toArray 25 (0, 0))
  obs : ∀ i o, ob[i]? = some o → wx.heap[w.heap.size + 1 + i]? = some o
  below : Below w.heap.size w wx
  ev : FldE w wx S m ve V.events
  ga : FldG w wx m vg V.gaps
  st : FldE w wx S m vs V.state
section
variable {w wx wy : World} {S : Nat → Prop} {m : Nat} {ob : List Obj} {V : Vw} {ve vg vs : Value}
theorem Fr.ext (h : Fr w wx S m ob V ve vg vs) (hb : Below wx.heap.size wx wy) : Fr w wy S m ob V ve vg vs :=
  ⟨h.hm, Nat.le_trans h.size hb.size, box_below h.box hb, fun i o hi => box_below (h.obs i o hi) hb, h.below.trans (hb.mono h.below.size), h.ev.ext hb, h.ga.ext hb, h.st.ext hb⟩
theorem Fr.view (h : Fr w wx S m ob V ve vg vs) : VwR wx (S4 S w.heap.size m) (vwCells V ve vg vs) V := ⟨ve, vg, vs, rfl, h.ev.get h.below, h.ga.get h.below, h.st.get h.below⟩
theorem Fr.one (h : Fr w wx S m ob V ve vg vs) : ∀ u ∈ vwCells V ve vg vs, u.oneCell' = true := by
  intro u hu
  simp only [vwCells, List.mem_cons, List.not_mem_nil, or_false] at hu
  rcases hu with rfl | rfl | rfl | rfl | rfl
  · rfl
  · rfl
  · exact h.ev.one
  · exact h.ga.one
  · exact h.st.one
theorem Fr.c0 (h : Fr w wx S m ob V ve vg vs) : wx.cell? ⟨w.heap.size, 0, none⟩ = some (.string V.room) := box_at h.box rfl
theorem Fr.c2 (h : Fr w wx S m ob V ve vg vs) : wx.cell? ⟨w.heap.size, 2, none⟩ = some ve := box_at h.box rfl
theorem Fr.c3 (h : Fr w wx S m ob V ve vg vs) : wx.cell? ⟨w.heap.size, 3, none⟩ = some vg := box_at h.box rfl
theorem Fr.c4 (h : Fr w wx S m ob V ve vg vs) : wx.cell? ⟨w.heap.size, 4, none⟩ = some vs := box_at h.box rfl
theorem Fr.oc (h : Fr w wx S m ob V ve vg vs) (i : Nat) {cs : List Value} {t : TypeId} (hi : ob[i]? = some (.cells cs.toArray t (0, 0))) {j : Nat} {u : Value} (hu : cs[j]? = some u) : wx.cell? ⟨w.heap.size + 1 + i, j, none⟩ = some u := box_at (h.obs i _ hi) hu
/-- a store into another of the boxes, or into a block behind them that is none of the fields' -/
theorem Fr.newW (h : Fr w wx S m ob V ve vg vs) {V' : Vw} {ve' vg' vs' : Value} (hb : wy.heap[w.heap.size]? = some (.cells (vwCells V' ve' vg' vs').toArray 25 (0, 0))) (hg : wx.grownBy wy (some w.heap.size))
    (h1 : FldE w wx S m ve' V'.events) (h2 : FldG w wx m vg' V'.gaps) (h3 : FldE w wx S m vs' V'.state) : Fr w wy S m ob V' ve' vg' vs' := by
  have hm0 : 0 < m := by have := h.hm; omega
  refine ⟨h.hm, Nat.le_trans h.size hg.size, hb, fun i o hi => box_row (h.obs i o hi) hg (fun e => by injection e with e; omega), h.below.grown hg h.below.size (fun q hq => by injection hq with hq; omega), h1.store hg (Nat.le_refl _) (by omega), h2.store hg (by omega), h3.store hg (Nat.le_refl _) (by omega)⟩
end
section
variable {P : Program} {ops : Array Oper} {rest : List Oper} {o : Oper} {a : Act} {Q : Exit → Act → World → Prop} {w wx : World} {S : Nat → Prop} {m : Nat} {ob : List Obj} {V : Vw} {ve vg vs : Value}
/-- a store into one of the view's fields -/
theorem fr_store (h : Fr w wx S m ob V ve vg vs) (hgd : Region.wanted o (yielded ops a.tmps) = true) (x y : Operand) {t : TypeId} (ho : o.op = .store t x y) (hd : o.dst = none) (hi : (P.info? t).map (·.size) = some 1) (j : Nat) (hj : j < 5)
    (hx : a.eval x = .pointer (some ⟨w.heap.size, j, none⟩)) (v : Value) (hy : a.eval y = v) (h1 : v.oneCell' = true) (V' : Vw) (ve' vg' vs' : Value) (hc : patch (vwCells V ve vg vs) j [v] = vwCells V' ve' vg' vs')
    (hE : FldE w wx S m ve' V'.events) (hG : FldG w wx m vg' V'.gaps) (hS : FldE w wx S m vs' V'.state)
    (k : ∀ wy, Fr w wy S m ob V' ve' vg' vs' → wx.grownBy wy (some w.heap.size) → wpList P ops Q rest a wy) : wpList P ops Q (o :: rest) a wx :=
  wpList_store1 hgd x y ho hd hi w.heap.size j hx v hy h1 (vwCells V ve vg vs) 25 h.box hj fun wy hb hg hz => k wy (h.newW (by rw [← hc]; exact hb) hg hE hG hS) hg
theorem fr_loadS (h : Fr w wx S m ob V ve vg vs) (hgd : Region.wanted o (yielded ops a.tmps) = true) (x : Operand) (ho : o.op = .load 25 x) (hP : P = Try.prog) (hx : a.eval x = .pointer (some ⟨w.heap.size, 0, none⟩))
    (k : wpList P ops Q rest (a.put o.dst (.agg (vwCells V ve vg vs).toArray)) wx) : wpList P ops Q (o :: rest) a wx := by
  subst hP
  exact wpList_loadS hgd x ho strcV ⟨w.heap.size, 0, none⟩ hx (vwCells V ve vg vs) rfl (box_all h.box) k
end
/-- the end: the box's cells lie in the result's box -/
theorem Fr.gives {w wx wy : World} {S : Nat → Prop} {m : Nat} {ob : List Obj} {V : Vw} {ve vg vs : Value} {g : Nat} (h : Fr w wx S m ob V ve vg vs) (hg : wx.grownBy wy (some g)) (h1 : w.heap.size ≤ g) (h2 : g < w.heap.size + m) : GivesV S V w (.returned (.agg (vwCells V ve vg vs).toArray)) wy := by
  have hb : Below w.heap.size w wy := h.below.grown hg h.below.size (fun q hq => by injection hq with hq; omega)
  refine ⟨_, rfl, ⟨ve, vg, vs, rfl, ?_, ?_, ?_⟩, hb⟩
  · exact ((h.ev.store hg h1 h2).get hb).weak fun x hx _ => hx.imp And.left fun h => by omega
  · exact (h.ga.store hg h2).get hb
  · exact ((h.st.store hg h1 h2).get hb).weak fun x hx _ => hx.imp And.left fun h => by omega
end

section
open Go.RowKit

def roomV (V : Vw) (p : Pt) : Vw := if p.anew then { room := p.room, member := p.member, events := [], gaps := [], state := [] } else { V with room := p.room, member := p.member }
def gapB (V : Vw) (p : Pt) : Bool := (p.limited && decide (0 < (freshL (ids V.events) p.timeline).length)) && !metL (ids V.events) p.timeline
def gapG (V : Vw) (p : Pt) : List (Int × Int) := if gapB V p then V.gaps ++ [((V.events.length : Int), p.back)] else V.gaps
def moreV (V : Vw) (p : Pt) : Vw := { V with gaps := gapG V p, events := V.events ++ freshL (ids V.events) p.timeline }
def laidV (V : Vw) (p : Pt) (n : Nat) : Vw := { moreV V p with state := (p.state.take n).foldl setL V.state }
def goneV (V : Vw) (p : Pt) : Vw := { V with events := stripL p.gone V.events, state := stripL p.gone V.state }
def applyV (V : Vw) (p : Pt) : Vw := if V.room.toList ≠ [] ∧ V.room.toList ≠ p.room.toList then V else goneV (laidV (roomV V p) p p.state.length) p
def Pt.fit (p : Pt) : Prop := (∀ e ∈ p.timeline, e.con.fit) ∧ (∀ e ∈ p.state, e.con.fit)
theorem foldl_snoc {α β : Type} (f : α → β → α) (a : α) {l : List β} {k : Nat} (hk : k < l.length) : (l.take (k + 1)).foldl f a = f ((l.take k).foldl f a) l[k] := by
  rw [List.take_succ_eq_append_getElem hk, List.foldl_append]; rfl
theorem setL_length (s : List Ev) (e : Ev) : (setL s e).length ≤ s.length + 1 := by
  unfold setL
  split
  · simp
  · simp only [List.length_append, List.length_take, List.length_cons, List.length_drop]; omega
theorem foldl_setL_length (l : List Ev) (s : List Ev) : (l.foldl setL s).length ≤ s.length + l.length := by
  induction l generalizing s with
  | nil => simp
  | cons e l ih => have := ih (setL s e); have := setL_length s e; simp only [List.foldl_cons, List.length_cons]; omega
theorem setL_mem {s : List Ev} {e x : Ev} (h : x ∈ setL s e) : x ∈ s ∨ x = e := by
  unfold setL at h
  split at h
  · exact List.mem_or_eq_of_mem_set h
  · rcases List.mem_append.1 h with h | h
    · exact .inl (List.mem_of_mem_take h)
    · rcases List.mem_cons.1 h with h | h
      · exact .inr h
      · exact .inl (List.mem_of_mem_drop h)
theorem foldl_setL_mem {l s : List Ev} {x : Ev} (h : x ∈ l.foldl setL s) : x ∈ s ∨ x ∈ l := by
  induction l generalizing s with
  | nil => exact .inl h
  | cons e l ih =>
    rcases ih h with h | h
    · rcases setL_mem h with h | h
      · exact .inl h
      · exact .inr (by simp [h])
    · exact .inr (List.mem_cons_of_mem _ h)
theorem freshL_mem {known : List Int} {l : List Ev} {x : Ev} (h : x ∈ freshL known l) : x ∈ l := by
  induction l generalizing known with
  | nil => simp [freshL] at h
  | cons e l ih =>
    unfold freshL at h
    split at h
    · exact List.mem_cons_of_mem _ (ih h)
    · rcases List.mem_cons.1 h with rfl | h
      · exact List.mem_cons_self
      · exact List.mem_cons_of_mem _ (ih h)
theorem freshL_length (known : List Int) (l : List Ev) : (freshL known l).length ≤ l.length := by
  induction l generalizing known with
  | nil => simp [freshL]
  | cons e l ih =>
    unfold freshL
    split
    · have := ih known; simp only [List.length_cons]; omega
    · have := ih (known ++ [e.id]); simp only [List.length_cons]; omega
theorem roomV_events_le (V : Vw) (p : Pt) : (roomV V p).events.length ≤ V.events.length := by unfold roomV; split <;> simp
theorem roomV_state_le (V : Vw) (p : Pt) : (roomV V p).state.length ≤ V.state.length := by unfold roomV; split <;> simp
theorem roomV_gaps_le (V : Vw) (p : Pt) : (roomV V p).gaps.length ≤ V.gaps.length := by unfold roomV; split <;> simp
theorem roomV_fit {V : Vw} {p : Pt} (h : V.fit) : (roomV V p).fit := by
  unfold roomV
  split
  · exact ⟨fun e he => by simp at he, fun e he => by simp at he⟩
  · exact h
theorem laidV_fit {V : Vw} {p : Pt} (h : V.fit) (hp : p.fit) (n : Nat) : (laidV V p n).fit :=
  ⟨fun e he => by
    rcases List.mem_append.1 he with he | he
    · exact h.1 e he
    · exact hp.1 e (freshL_mem he), fun e he => by
    rcases foldl_setL_mem he with he | he
    · exact h.2 e he
    · exact hp.2 e (List.mem_of_mem_take he)⟩
end
end Go.Proofs.Ytbehflldghhopaa

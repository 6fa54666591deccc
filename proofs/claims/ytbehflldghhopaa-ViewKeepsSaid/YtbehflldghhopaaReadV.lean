/-
  Views, parts and pages as a law's arguments. No condition.
-/
import Derived.Test.YtbehflldghhopaaReads
import Derived.Test.YtbehflldghhopaaLive
import Derived.Test.YtbehflldghhopaaVSame
set_option linter.unusedVariables false
set_option linter.unusedSimpArgs false
namespace Go.Proofs.Ytbehflldghhopaa
open Go.ChangeShapes Go.WideShapes Go.ChangeAt Go.RowKit Go.Deep

theorem cGp : Try.prog.cellsOf 55 = 2 := by kernel_rfl
def Vw.good (V : Vw) : Prop := (∀ e ∈ V.events, e.ok) ∧ (∀ e ∈ V.state, e.ok)
def Pt.good (p : Pt) : Prop := (∀ e ∈ p.timeline, e.ok) ∧ (∀ e ∈ p.state, e.ok)
section
variable {H : Type} {enc : TypeId × Value → H} {W : World} {base : Nat} {spare : Nat → Bool} {held : Bool}
theorem one_gap {m : Nat} {cs : List Value} {y : DataW H × List MemPlace} (hl : cs.length = 2) (h : DataW.trod enc Try.prog W base spare held m 55 cs = some y) : ∃ p : Int × Int, cs = [.int .i64 p.1, .int .i64 p.2] ∧ I64 p.1 ∧ I64 p.2 := by
  obtain ⟨xs, n, _, _, _, hxl, hf⟩ := DataW.trod_struct Try.underlying55 h
  match cs, hl with
  | [c0, c1], _ =>
    obtain ⟨y0, t0⟩ := read_field hxl hf 0 _ rfl 1 cI
    obtain ⟨y1, t1⟩ := read_field hxl hf 1 _ rfl 1 cI
    obtain ⟨s, rfl, hs⟩ := field_int (c := c0) Try.underlying3 t0
    obtain ⟨i, rfl, hi⟩ := field_int (c := c1) Try.underlying3 t1
    exact ⟨(s, i), rfl, i64_of_wf hs, i64_of_wf hi⟩
theorem array_of {cs : Array Value} {l : List Value} (h : cs.size = l.length) (hg : ∀ i, i < l.length → cs[i]? = l[i]?) : cs = l.toArray := by
  apply Array.ext'
  apply List.ext_getElem?
  intro i
  by_cases hi : i < l.length
  · simpa using hg i hi
  · rw [List.getElem?_eq_none (by simpa [h] using hi), List.getElem?_eq_none (by simpa using hi)]
theorem read_view {r : Reach} {b0 : Nat} {v : Value} {d : DataW H} {p : List MemPlace} (hv : Value.okWide Try.prog W r b0 25 v) (h : DataW.Trod enc Try.prog W base spare held 25 v d p) :
    ∃ cs V, v = .agg cs.toArray ∧ VwR W Any cs V ∧ V.good := by
  obtain ⟨cs, rfl, hcs, n, hfv⟩ := read_struct Try.underlying25 (by kernel_rfl) (by kernel_rfl) hv h
  obtain ⟨k0, y0, e0, t0⟩ := hfv 0 _ rfl
  obtain ⟨k1, y1, e1, t1⟩ := hfv 1 _ rfl
  obtain ⟨k2, y2, e2, t2⟩ := hfv 2 _ rfl
  obtain ⟨k3, y3, e3, t3⟩ := hfv 3 _ rfl
  obtain ⟨k4, y4, e4, t4⟩ := hfv 4 _ rfl
  obtain ⟨s0, rfl, w0⟩ := field_string Try.underlying9 t0
  obtain ⟨i1, rfl, w1⟩ := field_int Try.underlying3 t1
  obtain ⟨l2, h2, w2, _⟩ := read_evs t2
  obtain ⟨l3, h3, w3⟩ := slc_pairs (k0 := 0) Try.underlying23 cGp one_gap t3
  obtain ⟨l4, h4, w4, _⟩ := read_evs t4
  have hA : cs = [(.string s0), (.int .i64 i1), k2, k3, k4].toArray := array_of hcs fun i hi => by
    match i, hi with
    | 0, _ => exact e0
    | 1, _ => exact e1
    | 2, _ => exact e2
    | 3, _ => exact e3
    | 4, _ => exact e4
  subst hA
  exact ⟨_, { room := s0, member := i1, events := l2, gaps := l3, state := l4 }, rfl, ⟨k2, k3, k4, rfl, h2, h3, h4⟩, w2, w4⟩
theorem read_part {r : Reach} {b0 : Nat} {v : Value} {d : DataW H} {p : List MemPlace} (hv : Value.okWide Try.prog W r b0 39 v) (h : DataW.Trod enc Try.prog W base spare held 39 v d p) :
    ∃ cs q, v = .agg cs.toArray ∧ PtR W Any cs q ∧ q.good := by
  obtain ⟨cs, rfl, hcs, n, hfv⟩ := read_struct Try.underlying39 (by kernel_rfl) (by kernel_rfl) hv h
  obtain ⟨k0, y0, e0, t0⟩ := hfv 0 _ rfl
  obtain ⟨k1, y1, e1, t1⟩ := hfv 1 _ rfl
  obtain ⟨k2, y2, e2, t2⟩ := hfv 2 _ rfl
  obtain ⟨k3, y3, e3, t3⟩ := hfv 3 _ rfl
  obtain ⟨k4, y4, e4, t4⟩ := hfv 4 _ rfl
  obtain ⟨k5, y5, e5, t5⟩ := hfv 5 _ rfl
  obtain ⟨k6, y6, e6, t6⟩ := hfv 6 _ rfl
  obtain ⟨k7, y7, e7, t7⟩ := hfv 7 _ rfl
  obtain ⟨k8, y8, e8, t8⟩ := hfv 8 _ rfl
  obtain ⟨k9, y9, e9, t9⟩ := hfv 9 _ rfl
  obtain ⟨k10, y10, e10, t10⟩ := hfv 10 _ rfl
  obtain ⟨s0, rfl, w0⟩ := field_string Try.underlying9 t0
  obtain ⟨i1, rfl, w1⟩ := field_int Try.underlying3 t1
  obtain ⟨b2, rfl⟩ := field_bool Try.underlying4 t2
  obtain ⟨l3, h3, w3, _⟩ := read_evs t3
  obtain ⟨b4, rfl⟩ := field_bool Try.underlying4 t4
  obtain ⟨i5, rfl, w5⟩ := field_int Try.underlying3 t5
  obtain ⟨l6, h6, w6, _⟩ := read_evs t6
  obtain ⟨l7, h7, w7⟩ := slc_ints t7
  obtain ⟨A8, n8, c8, rfl⟩ := field_slice Try.underlying36 t8
  obtain ⟨A9, n9, c9, rfl⟩ := field_slice Try.underlying37 t9
  obtain ⟨i10, rfl, w10⟩ := field_int Try.underlying3 t10
  have hA : cs = [.string s0, .int .i64 i1, .bool b2, k3, .bool b4, .int .i64 i5, k6, k7, .slice A8 n8 c8, .slice A9 n9 c9, .int .i64 i10].toArray := array_of hcs fun i hi => by
    match i, hi with
    | 0, _ => exact e0
    | 1, _ => exact e1
    | 2, _ => exact e2
    | 3, _ => exact e3
    | 4, _ => exact e4
    | 5, _ => exact e5
    | 6, _ => exact e6
    | 7, _ => exact e7
    | 8, _ => exact e8
    | 9, _ => exact e9
    | 10, _ => exact e10
  subst hA
  exact ⟨_, { room := s0, member := i1, anew := b2, timeline := l3, limited := b4, back := i5, state := l6, gone := l7 }, rfl, ⟨k3, k6, k7, _, _, _, rfl, h3, h6, h7, rfl, rfl, rfl⟩, w3, w6⟩
theorem read_page {r : Reach} {b0 : Nat} {v : Value} {d : DataW H} {p : List MemPlace} (hv : Value.okWide Try.prog W r b0 44 v) (h : DataW.Trod enc Try.prog W base spare held 44 v d p) :
    ∃ (gi back : Int) (more : Bool) (vl : Value) (l : List Ev), v = .agg #[.int .i64 gi, vl, .int .i64 back, .bool more] ∧ EvsR W Any vl l ∧ ∀ e ∈ l, e.ok := by
  obtain ⟨cs, rfl, hcs, n, hfv⟩ := read_struct Try.underlying44 (by kernel_rfl) (by kernel_rfl) hv h
  obtain ⟨k0, y0, e0, t0⟩ := hfv 0 _ rfl
  obtain ⟨k1, y1, e1, t1⟩ := hfv 1 _ rfl
  obtain ⟨k2, y2, e2, t2⟩ := hfv 2 _ rfl
  obtain ⟨k3, y3, e3, t3⟩ := hfv 3 _ rfl
  obtain ⟨i0, rfl, w0⟩ := field_int Try.underlying3 t0
  obtain ⟨l1, h1, w1, _⟩ := read_evs t1
  obtain ⟨i2, rfl, w2⟩ := field_int Try.underlying3 t2
  obtain ⟨b3, rfl⟩ := field_bool Try.underlying4 t3
  have hA : cs = [.int .i64 i0, k1, .int .i64 i2, .bool b3].toArray := array_of hcs fun i hi => by
    match i, hi with
    | 0, _ => exact e0
    | 1, _ => exact e1
    | 2, _ => exact e2
    | 3, _ => exact e3
  subst hA
  exact ⟨i0, i2, b3, k1, l1, rfl, h1, w1⟩
end

/-! ### What stays small -/
theorem stripC_fit {k : Int} {c : Con} (h : c.fit) : (stripC k c).fit := by
  obtain ⟨h1, h2, h3, h4⟩ := h
  unfold stripC
  repeat' split
  all_goals (refine ⟨?_, ?_, ?_, ?_⟩ <;> first | assumption | exact Nat.zero_le _)
theorem stripE_fit {e : Ev} (h : e.fit) : (stripE e).fit := ⟨h.1, h.2.1, stripC_fit h.2.2⟩
theorem stripL_fit {ns : List Int} {l : List Ev} (h : ∀ e ∈ l, e.fit) : ∀ e ∈ stripL ns l, e.fit := by
  intro e he
  obtain ⟨x, hx, rfl⟩ := List.mem_map.1 he
  split
  · exact stripE_fit (h x hx)
  · exact h x hx
theorem redactV_can {V : Vw} {n : Int} (h : V.can) : (redactV V n).can := by
  obtain ⟨h1, h2, h3, h4, h5⟩ := h
  exact ⟨by show (stripL [n] V.events).length ≤ _; rw [stripL_length]; exact h1, by show (stripL [n] V.state).length ≤ _; rw [stripL_length]; exact h2, h3, stripL_fit h4, stripL_fit h5⟩
theorem can_fit {V : Vw} (h : V.can) : V.fit := ⟨fun e he => (h.2.2.2.1 e he).2.2, fun e he => (h.2.2.2.2 e he).2.2⟩
theorem small_can {V : Vw} (h : V.small 14) : V.can := ⟨by have := h.1; omega, by have := h.2.2.1; omega, by have := h.2.2.2.2.1; omega, fun e he => Con.fit_of_short (h.2.1 e he), fun e he => Con.fit_of_short (h.2.2.2.1 e he)⟩
end Go.Proofs.Ytbehflldghhopaa

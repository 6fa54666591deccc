/-
  Identities and lists of ghosts as a law's arguments. No condition.
-/
import Derived.Test.YtimdcnickfaddaaReadsC
import Derived.Test.YtimdcnickfaddaaGhL
set_option linter.unusedVariables false
set_option linter.unusedSimpArgs false
namespace Go.Proofs.Ytimdcnickfaddaa
open Go.ChangeShapes Go.WideShapes Go.ChangeAt Go.RowKit Go.Deep

theorem cGh : Try.prog.cellsOf 68 = 3 := by kernel_rfl
section
variable {H : Type} {enc : TypeId × Value → H} {W : World} {base : Nat} {spare : Nat → Bool} {held : Bool}
set_option maxRecDepth 100000 in
theorem one_ghost {m : Nat} {cs : List Value} {y : DataW H × List MemPlace} (hl : cs.length = 3) (h : DataW.trod enc Try.prog W base spare held m 68 cs = some y) : ∃ g : Gh, cs = gc g := by
  obtain ⟨xs, n, _, _, _, hxl, hf⟩ := DataW.trod_struct Try.underlying68 h
  match cs, hl with
  | [c0, c1, c2], _ =>
    obtain ⟨y0, t0⟩ := read_field hxl hf 0 _ rfl 1 cS
    obtain ⟨y1, t1⟩ := read_field hxl hf 1 _ rfl 1 cS
    obtain ⟨y2, t2⟩ := read_field hxl hf 2 _ rfl 1 cS
    obtain ⟨s0, rfl, h0⟩ := field_string (c := c0) Try.underlying9 t0
    obtain ⟨s1, rfl, h1⟩ := field_string (c := c1) Try.underlying9 t1
    obtain ⟨s2, rfl, h2⟩ := field_string (c := c2) Try.underlying9 t2
    exact ⟨⟨s0, s1, s2⟩, rfl⟩
theorem told_ghs : ∀ {css : List (List Value)} {l : List Gh}, Told (fun cs g => cs = gc g) css l → css.flatten = ghs l
  | [], [], _ => rfl
  | c :: css, g :: l, h => by
    obtain ⟨h1, h2⟩ := h
    rw [List.flatten_cons, told_ghs h2, h1]; rfl
set_option maxRecDepth 100000 in
theorem read_ghosts {r : Reach} {b0 : Nat} {v : Value} {d : DataW H} {p : List MemPlace} (hv : Value.okWide Try.prog W r b0 32 v) (h : DataW.Trod enc Try.prog W base spare held 32 v d p) : ∃ A c, ∃ l : List Gh, v = .slice A l.length c ∧ Row W W.heap.size A (ghs l) ∧ l.length ≤ c ∧ c ≤ maxLen := by
  obtain ⟨A, n, k, rfl⟩ := okWide_slice Try.underlying32 hv
  obtain ⟨fuel, h⟩ := h
  obtain ⟨css, hcl, hcs, hr, h1, h2, hn⟩ := read_slice Try.underlying32 cGh (by decide) h
  obtain ⟨l, ht⟩ := told_of (R := fun cs (g : Gh) => cs = gc g) (css := css) fun cs hc => by
    obtain ⟨hl, m, y, h3⟩ := hcs cs hc
    exact one_ghost hl h3
  have hnl : n = l.length := by rw [← hcl, ht.length]
  subst hnl
  rw [told_ghs ht] at hr
  exact ⟨A, k, l, rfl, hr, h1, h2⟩
theorem array_three {cs : Array Value} {a b c : Value} (h : cs.size = 3) (h0 : cs[0]? = some a) (h1 : cs[1]? = some b) (h2 : cs[2]? = some c) : cs = #[a, b, c] := by
  apply Array.ext'
  apply List.ext_getElem?
  intro i
  match i with
  | 0 => simpa using h0
  | 1 => simpa using h1
  | 2 => simpa using h2
  | i + 3 => simp; omega
set_option maxRecDepth 100000 in
theorem read_ident {r : Reach} {b0 : Nat} {v : Value} {d : DataW H} {p : List MemPlace} (hv : Value.okWide Try.prog W r b0 23 v) (h : DataW.Trod enc Try.prog W base spare held 23 v d p) : ∃ x y z : ByteArray, v = .agg #[.string x, .string y, .string z] := by
  obtain ⟨cs, rfl, hcs, n, hfv⟩ := read_struct Try.underlying23 (by kernel_rfl) (by kernel_rfl) hv h
  obtain ⟨k0, y0, e0, t0⟩ := hfv 0 _ rfl
  obtain ⟨k1, y1, e1, t1⟩ := hfv 1 _ rfl
  obtain ⟨k2, y2, e2, t2⟩ := hfv 2 _ rfl
  obtain ⟨s0, rfl, w0⟩ := field_string Try.underlying9 t0
  obtain ⟨s1, rfl, w1⟩ := field_string Try.underlying9 t1
  obtain ⟨s2, rfl, w2⟩ := field_string Try.underlying9 t2
  exact ⟨s0, s1, s2, by rw [array_three (by rw [hcs]; rfl) e0 e1 e2]⟩
end
end Go.Proofs.Ytimdcnickfaddaa

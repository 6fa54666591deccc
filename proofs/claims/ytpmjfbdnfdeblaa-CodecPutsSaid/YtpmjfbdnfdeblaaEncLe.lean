/-
  Plain laws: how long the encodings are; and a cell that stays as it was. No program, no condition.
-/
import Derived.Test.YtpmjfbdnfdeblaaGreat
import Derived.Test.YtpmjfbdnfdeblaaDecLaws
set_option linter.unusedVariables false
set_option linter.unusedSimpArgs false
namespace Go.Proofs.Ytpmjfbdnfdeblaa
open Go.RowKit

/-- the sizes of the strings bound the bytes of their encodings -/
theorem encTexts_le (l : List ByteArray) (hl : l.length < 9223372036854775808) (hs : sizes l < 9223372036854775808) : (encL encS l).length ≤ 10 + 10 * l.length + sizes l := by
  have h1 := encI_le (I64_nat hl)
  have key : ∀ l : List ByteArray, sizes l < 9223372036854775808 → (l.flatMap encS).length ≤ 10 * l.length + sizes l := by
    intro l
    induction l with
    | nil => intro _; simp
    | cons s r ih =>
      intro h
      simp only [sizes] at h
      have h2 := encS_le s (by omega)
      have h3 := ih (by omega)
      simp only [List.flatMap_cons, List.length_append, List.length_cons, sizes]; omega
  have := key l hs
  simp only [encL, List.length_append]; omega

theorem cell_ext {w w' : World} {p : Addr} {v : Value} (h : w.cell? p = some v) (k : Below w.heap.size w w') : w'.cell? p = some v := (k.cell (World.block_lt_of_cell? w p h)).trans h

end Go.Proofs.Ytpmjfbdnfdeblaa

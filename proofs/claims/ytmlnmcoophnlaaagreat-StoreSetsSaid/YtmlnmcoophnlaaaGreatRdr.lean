/-
  content's reader: number, text, truth, texts, count.
-/
import Derived.Test.YtmlnmcoophnlaaaGreatDecP
import Derived.Test.YtmlnmcoophnlaaaGreatGet
import Derived.Test.YtmlnmcoophnlaaaGreatCop6
import Derived.Maps.AppendAt
set_option linter.unusedVariables false
set_option linter.unusedSimpArgs false
namespace Go.Proofs.YtmlnmcoophnlaaaGreat
open Go.RowKit
attribute [local go_sem] Addr.add_mid
theorem sizeB : (Tryz.prog.info? 77).map (·.size) = some 1 := by kernel_rfl
theorem sizeT1 : (Tryz.prog.info? 4).map (·.size) = some 1 := by kernel_rfl
theorem below_grown {w w' w2 : World} {g : Nat} (h : Below w.heap.size w w') (k : w'.grownBy w2 (some g)) : w.grownBy w2 (some g) :=
  ⟨k.os.trans h.os, k.tape.trans h.tape, k.output.trans h.output, Nat.le_trans h.size k.size, fun i hi hne => (k.block i (Nat.lt_of_lt_of_le hi h.size) hne).trans (h.block i hi)⟩
theorem grown_below {w w' w2 : World} {row : Option Nat} (k : w.grownBy w' row) (h : Below w'.heap.size w' w2) : w.grownBy w2 row :=
  ⟨h.os.trans k.os, h.tape.trans k.tape, h.output.trans k.output, Nat.le_trans k.size h.size, fun i hi hne => (h.block i (Nat.lt_of_lt_of_le hi k.size)).trans (k.block i hi hne)⟩
end Go.Proofs.YtmlnmcoophnlaaaGreat

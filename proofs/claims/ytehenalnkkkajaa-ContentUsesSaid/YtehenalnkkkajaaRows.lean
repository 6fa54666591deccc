/-
  No cell of these rows narrows 'for every input' (looked for: loops, veiled, ifaces, maps, wideKeys, modest, calm, conditions, laid).
  DERIVED. THE GIVEN ROWS OF THIS SEAT. 9 by the template 'for every input the law returns true; each argument reads behind the call as it read before'; 0 by the template 'total and deterministic' (their statements: YtehenalnkkkajaaTotals.lean).
  GIVEN WITH THE SEED: the statements are not yours to turn. If you find one false, say at which input.
  Laid BY PROGRAM, IN A SANDBOX (cutbox-rows.mjs): the forced cells as the released guide's own fill.sh prints them over the translation c63dd4204629ae27… (all of the seat's roots in one cut). By AI agents, Wed Nov 11 2026. No macro, syntax, notation, axiom, sorry.
-/
import Derived.Test.YtehenalnkkkajaaChecked
import GoSem.Claim
import GoSem.ClaimJoined
import GoSem.ClaimMapViews
import Derived.JoinedTies
import Derived.KernelRfl
namespace Go.Proofs.Ytehenalnkkkajaa
/- THE CELL 'sum', in the pinned program and in every row, IS THE sha256 OF THE DUMP (.gsa) THAT YtehenalnkkkajaaProg.lean LOADS. Nothing in Lean hashes anything: it is a label: what it is worth is what the hold of that sum in a sandbox is worth. -/
noncomputable def Try.pinned : Pinned := { name := "ytehenalnkkkajaa", sum := "c63dd4204629ae278c717447fcee64b36fd06a0d8c06e7ff707599333610a1ab", checked := Try.checked }
namespace Rows
def none {H : Type} : Left H := { results := [], args := [] }

/-- 'fedchatlaw06.ContentLevels': WHATEVER THE INPUT: true; the input reads as it did. -/
def contentLevelsSpec : ChangeSpec := { name := "contentLevels", fn := fun _ => fun
  | [d] => { results := [.lit (.bool true)], args := [d] }
  | _ => none }
def contentLevelsRow : OpenClaim := { program := "ytehenalnkkkajaa", sum := "c63dd4204629ae278c717447fcee64b36fd06a0d8c06e7ff707599333610a1ab", func := "fedchat/fedchatlaw06.ContentLevels", spec := "contentLevels", inPlace := ["internal/bytealg.IndexByteString", "internal/bytealg.IndexString"], unfollowed := true, recurses := true, named := ["internal/bytealg.MaxLen"], apart := false }
def ContentLevelsSaid : Prop := contentLevelsRow.holds Try.pinned (OpenSpec.ofChange contentLevelsSpec)

/-- ITS FALSE NEIGHBOUR: 'it returns false'. Refute it at one input. -/
def contentLevelsWrong : ChangeSpec := { name := "contentLevels", fn := fun _ => fun
  | [d] => { results := [.lit (.bool false)], args := [d] }
  | _ => none }
def ContentLevelsWrongFalsely : Prop := contentLevelsRow.holds Try.pinned (OpenSpec.ofChange contentLevelsWrong)

/-- 'fedchatlaw06.ContentStrips': WHATEVER THE INPUT: true; the input reads as it did. -/
def contentStripsSpec : ChangeSpec := { name := "contentStrips", fn := fun _ => fun
  | [d1, d2] => { results := [.lit (.bool true)], args := [d1, d2] }
  | _ => none }
def contentStripsRow : OpenClaim := { program := "ytehenalnkkkajaa", sum := "c63dd4204629ae278c717447fcee64b36fd06a0d8c06e7ff707599333610a1ab", func := "fedchat/fedchatlaw06.ContentStrips", spec := "contentStrips", inPlace := ["internal/bytealg.IndexByteString", "internal/bytealg.IndexString"], unfollowed := true, recurses := true, named := ["internal/bytealg.MaxLen"], apart := false }
def ContentStripsSaid : Prop := contentStripsRow.holds Try.pinned (OpenSpec.ofChange contentStripsSpec)

/-- ITS FALSE NEIGHBOUR: 'it returns false'. Refute it at one input. -/
def contentStripsWrong : ChangeSpec := { name := "contentStrips", fn := fun _ => fun
  | [d1, d2] => { results := [.lit (.bool false)], args := [d1, d2] }
  | _ => none }
def ContentStripsWrongFalsely : Prop := contentStripsRow.holds Try.pinned (OpenSpec.ofChange contentStripsWrong)

/-- 'fedchatlaw06.ContentSames': WHATEVER THE INPUT: true; the input reads as it did. -/
def contentSamesSpec : ChangeSpec := { name := "contentSames", fn := fun _ => fun
  | [d1, d2] => { results := [.lit (.bool true)], args := [d1, d2] }
  | _ => none }
def contentSamesRow : OpenClaim := { program := "ytehenalnkkkajaa", sum := "c63dd4204629ae278c717447fcee64b36fd06a0d8c06e7ff707599333610a1ab", func := "fedchat/fedchatlaw06.ContentSames", spec := "contentSames", inPlace := ["internal/bytealg.IndexByteString", "internal/bytealg.IndexString"], unfollowed := true, recurses := true, named := ["internal/bytealg.MaxLen"], apart := false }
def ContentSamesSaid : Prop := contentSamesRow.holds Try.pinned (OpenSpec.ofChange contentSamesSpec)

/-- ITS FALSE NEIGHBOUR: 'it returns false'. Refute it at one input. -/
def contentSamesWrong : ChangeSpec := { name := "contentSames", fn := fun _ => fun
  | [d1, d2] => { results := [.lit (.bool false)], args := [d1, d2] }
  | _ => none }
def ContentSamesWrongFalsely : Prop := contentSamesRow.holds Try.pinned (OpenSpec.ofChange contentSamesWrong)

/-- 'fedchatlaw06.ContentEncodes': WHATEVER THE INPUT: true; the input reads as it did. -/
def contentEncodesSpec : ChangeSpec := { name := "contentEncodes", fn := fun _ => fun
  | [d] => { results := [.lit (.bool true)], args := [d] }
  | _ => none }
def contentEncodesRow : OpenClaim := { program := "ytehenalnkkkajaa", sum := "c63dd4204629ae278c717447fcee64b36fd06a0d8c06e7ff707599333610a1ab", func := "fedchat/fedchatlaw06.ContentEncodes", spec := "contentEncodes", inPlace := ["internal/bytealg.IndexByteString", "internal/bytealg.IndexString"], unfollowed := true, recurses := true, named := ["internal/bytealg.MaxLen"], apart := false }
def ContentEncodesSaid : Prop := contentEncodesRow.holds Try.pinned (OpenSpec.ofChange contentEncodesSpec)

/-- ITS FALSE NEIGHBOUR: 'it returns false'. Refute it at one input. -/
def contentEncodesWrong : ChangeSpec := { name := "contentEncodes", fn := fun _ => fun
  | [d] => { results := [.lit (.bool false)], args := [d] }
  | _ => none }
def ContentEncodesWrongFalsely : Prop := contentEncodesRow.holds Try.pinned (OpenSpec.ofChange contentEncodesWrong)

/-- 'fedchatlaw06.ContentDecodes': WHATEVER THE INPUT: true; the input reads as it did. -/
def contentDecodesSpec : ChangeSpec := { name := "contentDecodes", fn := fun _ => fun
  | [d] => { results := [.lit (.bool true)], args := [d] }
  | _ => none }
def contentDecodesRow : OpenClaim := { program := "ytehenalnkkkajaa", sum := "c63dd4204629ae278c717447fcee64b36fd06a0d8c06e7ff707599333610a1ab", func := "fedchat/fedchatlaw06.ContentDecodes", spec := "contentDecodes", inPlace := ["internal/bytealg.IndexByteString", "internal/bytealg.IndexString"], unfollowed := true, recurses := true, named := ["internal/bytealg.MaxLen"], apart := false }
def ContentDecodesSaid : Prop := contentDecodesRow.holds Try.pinned (OpenSpec.ofChange contentDecodesSpec)

/-- ITS FALSE NEIGHBOUR: 'it returns false'. Refute it at one input. -/
def contentDecodesWrong : ChangeSpec := { name := "contentDecodes", fn := fun _ => fun
  | [d] => { results := [.lit (.bool false)], args := [d] }
  | _ => none }
def ContentDecodesWrongFalsely : Prop := contentDecodesRow.holds Try.pinned (OpenSpec.ofChange contentDecodesWrong)

/-- 'fedchatlaw06.ContentApart': WHATEVER THE INPUT: true; the input reads as it did. -/
def contentApartSpec : ChangeSpec := { name := "contentApart", fn := fun _ => fun
  | [d1, d2] => { results := [.lit (.bool true)], args := [d1, d2] }
  | _ => none }
def contentApartRow : OpenClaim := { program := "ytehenalnkkkajaa", sum := "c63dd4204629ae278c717447fcee64b36fd06a0d8c06e7ff707599333610a1ab", func := "fedchat/fedchatlaw06.ContentApart", spec := "contentApart", inPlace := ["internal/bytealg.IndexByteString", "internal/bytealg.IndexString"], unfollowed := true, recurses := true, named := ["internal/bytealg.MaxLen"], apart := false }
def ContentApartSaid : Prop := contentApartRow.holds Try.pinned (OpenSpec.ofChange contentApartSpec)

/-- ITS FALSE NEIGHBOUR: 'it returns false'. Refute it at one input. -/
def contentApartWrong : ChangeSpec := { name := "contentApart", fn := fun _ => fun
  | [d1, d2] => { results := [.lit (.bool false)], args := [d1, d2] }
  | _ => none }
def ContentApartWrongFalsely : Prop := contentApartRow.holds Try.pinned (OpenSpec.ofChange contentApartWrong)

/-- 'fedchatlaw06.ContentStripsAgain': WHATEVER THE INPUT: true; the input reads as it did. -/
def contentStripsAgainSpec : ChangeSpec := { name := "contentStripsAgain", fn := fun _ => fun
  | [d1, d2] => { results := [.lit (.bool true)], args := [d1, d2] }
  | _ => none }
def contentStripsAgainRow : OpenClaim := { program := "ytehenalnkkkajaa", sum := "c63dd4204629ae278c717447fcee64b36fd06a0d8c06e7ff707599333610a1ab", func := "fedchat/fedchatlaw06.ContentStripsAgain", spec := "contentStripsAgain", inPlace := ["internal/bytealg.IndexByteString", "internal/bytealg.IndexString"], unfollowed := true, recurses := true, named := ["internal/bytealg.MaxLen"], apart := false }
def ContentStripsAgainSaid : Prop := contentStripsAgainRow.holds Try.pinned (OpenSpec.ofChange contentStripsAgainSpec)

/-- ITS FALSE NEIGHBOUR: 'it returns false'. Refute it at one input. -/
def contentStripsAgainWrong : ChangeSpec := { name := "contentStripsAgain", fn := fun _ => fun
  | [d1, d2] => { results := [.lit (.bool false)], args := [d1, d2] }
  | _ => none }
def ContentStripsAgainWrongFalsely : Prop := contentStripsAgainRow.holds Try.pinned (OpenSpec.ofChange contentStripsAgainWrong)

/-- 'fedchatlaw06.ContentUses': WHATEVER THE INPUT: true; the input reads as it did. -/
def contentUsesSpec : ChangeSpec := { name := "contentUses", fn := fun _ => fun
  | [d1, d2] => { results := [.lit (.bool true)], args := [d1, d2] }
  | _ => none }
def contentUsesRow : OpenClaim := { program := "ytehenalnkkkajaa", sum := "c63dd4204629ae278c717447fcee64b36fd06a0d8c06e7ff707599333610a1ab", func := "fedchat/fedchatlaw06.ContentUses", spec := "contentUses", inPlace := ["internal/bytealg.IndexByteString", "internal/bytealg.IndexString"], unfollowed := true, recurses := true, named := ["internal/bytealg.MaxLen"], apart := false }
def ContentUsesSaid : Prop := contentUsesRow.holds Try.pinned (OpenSpec.ofChange contentUsesSpec)

/-- ITS FALSE NEIGHBOUR: 'it returns false'. Refute it at one input. -/
def contentUsesWrong : ChangeSpec := { name := "contentUses", fn := fun _ => fun
  | [d1, d2] => { results := [.lit (.bool false)], args := [d1, d2] }
  | _ => none }
def ContentUsesWrongFalsely : Prop := contentUsesRow.holds Try.pinned (OpenSpec.ofChange contentUsesWrong)

/-- 'fedchatlaw06.ContentRemains': WHATEVER THE INPUT: true; the input reads as it did. -/
def contentRemainsSpec : ChangeSpec := { name := "contentRemains", fn := fun _ => fun
  | [d1, d2] => { results := [.lit (.bool true)], args := [d1, d2] }
  | _ => none }
def contentRemainsRow : OpenClaim := { program := "ytehenalnkkkajaa", sum := "c63dd4204629ae278c717447fcee64b36fd06a0d8c06e7ff707599333610a1ab", func := "fedchat/fedchatlaw06.ContentRemains", spec := "contentRemains", inPlace := ["internal/bytealg.IndexByteString", "internal/bytealg.IndexString"], unfollowed := true, recurses := true, named := ["internal/bytealg.MaxLen"], apart := false }
def ContentRemainsSaid : Prop := contentRemainsRow.holds Try.pinned (OpenSpec.ofChange contentRemainsSpec)

/-- ITS FALSE NEIGHBOUR: 'it returns false'. Refute it at one input. -/
def contentRemainsWrong : ChangeSpec := { name := "contentRemains", fn := fun _ => fun
  | [d1, d2] => { results := [.lit (.bool false)], args := [d1, d2] }
  | _ => none }
def ContentRemainsWrongFalsely : Prop := contentRemainsRow.holds Try.pinned (OpenSpec.ofChange contentRemainsWrong)

/- THE SECOND FORM. 'bulk': how many values and letters a reading holds, each counted each time it is reached (what is shared counts as often as it is met; a slice's spare places count too). A statement '..UptoSaid' is the law's where the arguments, and the package variables that the reading takes, are together of bulk at most 1048576: NARROWER than '..Said'. Prove '..Said' where nothing that the law and all that it calls make is longer than what came in: it says more and counts as full. Else prove '..UptoSaid'. A law counts once. -/
mutual
def uptoBulk {H : Type} : DataW H → Nat
  | .lit (.string bytes) => bytes.length + 1
  | .lit _ => 1
  | .nil => 1
  | .ptr d => uptoBulk d + 1
  | .slice elems spare => uptoBulkAll elems + uptoBulkAll spare + 1
  | .agg parts => uptoBulkAll parts + 1
  | .iface _ d => uptoBulk d + 1
  | .map entries => uptoBulkEntries entries + 1
  | .held _ => 1
def uptoBulkAll {H : Type} : List (DataW H) → Nat
  | [] => 0
  | d :: r => uptoBulk d + uptoBulkAll r
def uptoBulkEntries {H : Type} : List (Lit × DataW H) → Nat
  | [] => 0
  | x :: r => uptoBulkEntry x + uptoBulkEntries r
def uptoBulkEntry {H : Type} : Lit × DataW H → Nat
  | (.string bytes, d) => bytes.length + uptoBulk d + 1
  | (_, d) => uptoBulk d + 1
 end
def uptoSmall : (H : Type) → List (DataW H) → Bool := fun _ ds => decide (uptoBulkAll ds ≤ 1048576)
def OpenSpec.upto (s : _root_.Go.ChangeSpec) : _root_.Go.OpenSpec := { _root_.Go.OpenSpec.ofChange s with cond := some uptoSmall }

/-- 'fedchatlaw06.ContentLevels', WHERE WHAT IT READS IS OF BULK AT MOST 1048576: true; the input reads as it did. -/
def contentLevelsUptoRow : OpenClaim := { program := "ytehenalnkkkajaa", sum := "c63dd4204629ae278c717447fcee64b36fd06a0d8c06e7ff707599333610a1ab", func := "fedchat/fedchatlaw06.ContentLevels", spec := "contentLevels", inPlace := ["internal/bytealg.IndexByteString", "internal/bytealg.IndexString"], unfollowed := true, recurses := true, named := ["internal/bytealg.MaxLen"], apart := false, narrowed := true }
def ContentLevelsUptoSaid : Prop := contentLevelsUptoRow.holds Try.pinned (OpenSpec.upto contentLevelsSpec)

/-- 'fedchatlaw06.ContentStrips', WHERE WHAT IT READS IS OF BULK AT MOST 1048576: true; the input reads as it did. -/
def contentStripsUptoRow : OpenClaim := { program := "ytehenalnkkkajaa", sum := "c63dd4204629ae278c717447fcee64b36fd06a0d8c06e7ff707599333610a1ab", func := "fedchat/fedchatlaw06.ContentStrips", spec := "contentStrips", inPlace := ["internal/bytealg.IndexByteString", "internal/bytealg.IndexString"], unfollowed := true, recurses := true, named := ["internal/bytealg.MaxLen"], apart := false, narrowed := true }
def ContentStripsUptoSaid : Prop := contentStripsUptoRow.holds Try.pinned (OpenSpec.upto contentStripsSpec)

/-- 'fedchatlaw06.ContentSames', WHERE WHAT IT READS IS OF BULK AT MOST 1048576: true; the input reads as it did. -/
def contentSamesUptoRow : OpenClaim := { program := "ytehenalnkkkajaa", sum := "c63dd4204629ae278c717447fcee64b36fd06a0d8c06e7ff707599333610a1ab", func := "fedchat/fedchatlaw06.ContentSames", spec := "contentSames", inPlace := ["internal/bytealg.IndexByteString", "internal/bytealg.IndexString"], unfollowed := true, recurses := true, named := ["internal/bytealg.MaxLen"], apart := false, narrowed := true }
def ContentSamesUptoSaid : Prop := contentSamesUptoRow.holds Try.pinned (OpenSpec.upto contentSamesSpec)

/-- 'fedchatlaw06.ContentEncodes', WHERE WHAT IT READS IS OF BULK AT MOST 1048576: true; the input reads as it did. -/
def contentEncodesUptoRow : OpenClaim := { program := "ytehenalnkkkajaa", sum := "c63dd4204629ae278c717447fcee64b36fd06a0d8c06e7ff707599333610a1ab", func := "fedchat/fedchatlaw06.ContentEncodes", spec := "contentEncodes", inPlace := ["internal/bytealg.IndexByteString", "internal/bytealg.IndexString"], unfollowed := true, recurses := true, named := ["internal/bytealg.MaxLen"], apart := false, narrowed := true }
def ContentEncodesUptoSaid : Prop := contentEncodesUptoRow.holds Try.pinned (OpenSpec.upto contentEncodesSpec)

/-- 'fedchatlaw06.ContentDecodes', WHERE WHAT IT READS IS OF BULK AT MOST 1048576: true; the input reads as it did. -/
def contentDecodesUptoRow : OpenClaim := { program := "ytehenalnkkkajaa", sum := "c63dd4204629ae278c717447fcee64b36fd06a0d8c06e7ff707599333610a1ab", func := "fedchat/fedchatlaw06.ContentDecodes", spec := "contentDecodes", inPlace := ["internal/bytealg.IndexByteString", "internal/bytealg.IndexString"], unfollowed := true, recurses := true, named := ["internal/bytealg.MaxLen"], apart := false, narrowed := true }
def ContentDecodesUptoSaid : Prop := contentDecodesUptoRow.holds Try.pinned (OpenSpec.upto contentDecodesSpec)

/-- 'fedchatlaw06.ContentApart', WHERE WHAT IT READS IS OF BULK AT MOST 1048576: true; the input reads as it did. -/
def contentApartUptoRow : OpenClaim := { program := "ytehenalnkkkajaa", sum := "c63dd4204629ae278c717447fcee64b36fd06a0d8c06e7ff707599333610a1ab", func := "fedchat/fedchatlaw06.ContentApart", spec := "contentApart", inPlace := ["internal/bytealg.IndexByteString", "internal/bytealg.IndexString"], unfollowed := true, recurses := true, named := ["internal/bytealg.MaxLen"], apart := false, narrowed := true }
def ContentApartUptoSaid : Prop := contentApartUptoRow.holds Try.pinned (OpenSpec.upto contentApartSpec)

/-- 'fedchatlaw06.ContentStripsAgain', WHERE WHAT IT READS IS OF BULK AT MOST 1048576: true; the input reads as it did. -/
def contentStripsAgainUptoRow : OpenClaim := { program := "ytehenalnkkkajaa", sum := "c63dd4204629ae278c717447fcee64b36fd06a0d8c06e7ff707599333610a1ab", func := "fedchat/fedchatlaw06.ContentStripsAgain", spec := "contentStripsAgain", inPlace := ["internal/bytealg.IndexByteString", "internal/bytealg.IndexString"], unfollowed := true, recurses := true, named := ["internal/bytealg.MaxLen"], apart := false, narrowed := true }
def ContentStripsAgainUptoSaid : Prop := contentStripsAgainUptoRow.holds Try.pinned (OpenSpec.upto contentStripsAgainSpec)

/-- 'fedchatlaw06.ContentUses', WHERE WHAT IT READS IS OF BULK AT MOST 1048576: true; the input reads as it did. -/
def contentUsesUptoRow : OpenClaim := { program := "ytehenalnkkkajaa", sum := "c63dd4204629ae278c717447fcee64b36fd06a0d8c06e7ff707599333610a1ab", func := "fedchat/fedchatlaw06.ContentUses", spec := "contentUses", inPlace := ["internal/bytealg.IndexByteString", "internal/bytealg.IndexString"], unfollowed := true, recurses := true, named := ["internal/bytealg.MaxLen"], apart := false, narrowed := true }
def ContentUsesUptoSaid : Prop := contentUsesUptoRow.holds Try.pinned (OpenSpec.upto contentUsesSpec)

/-- 'fedchatlaw06.ContentRemains', WHERE WHAT IT READS IS OF BULK AT MOST 1048576: true; the input reads as it did. -/
def contentRemainsUptoRow : OpenClaim := { program := "ytehenalnkkkajaa", sum := "c63dd4204629ae278c717447fcee64b36fd06a0d8c06e7ff707599333610a1ab", func := "fedchat/fedchatlaw06.ContentRemains", spec := "contentRemains", inPlace := ["internal/bytealg.IndexByteString", "internal/bytealg.IndexString"], unfollowed := true, recurses := true, named := ["internal/bytealg.MaxLen"], apart := false, narrowed := true }
def ContentRemainsUptoSaid : Prop := contentRemainsUptoRow.holds Try.pinned (OpenSpec.upto contentRemainsSpec)

end Rows
end Go.Proofs.Ytehenalnkkkajaa

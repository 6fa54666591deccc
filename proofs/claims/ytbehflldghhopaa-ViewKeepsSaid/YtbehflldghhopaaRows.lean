/-
  No cell of these rows narrows 'for every input' (looked for: loops, veiled, ifaces, maps, wideKeys, modest, calm, conditions, laid).
  DERIVED. THE GIVEN ROWS OF THIS SEAT. 6 by the template 'for every input the law returns true; each argument reads behind the call as it read before'; 0 by the template 'total and deterministic' (their statements: YtbehflldghhopaaTotals.lean).
  GIVEN WITH THE SEED: the statements are not yours to turn. If you find one false, say at which input.
  Laid BY PROGRAM, IN A SANDBOX (cutbox-rows.mjs): the forced cells as the released guide's own fill.sh prints them over the translation e682910a16f1a911… (all of the seat's roots in one cut). By AI agents, Wed Nov 11 2026. No macro, syntax, notation, axiom, sorry.
-/
import Derived.Test.YtbehflldghhopaaChecked
import GoSem.Claim
import GoSem.ClaimJoined
import GoSem.ClaimMapViews
import Derived.JoinedTies
import Derived.KernelRfl
namespace Go.Proofs.Ytbehflldghhopaa
/- THE CELL 'sum', in the pinned program and in every row, IS THE sha256 OF THE DUMP (.gsa) THAT YtbehflldghhopaaProg.lean LOADS. Nothing in Lean hashes anything: it is a label: what it is worth is what the hold of that sum in a sandbox is worth. -/
noncomputable def Try.pinned : Pinned := { name := "ytbehflldghhopaa", sum := "e682910a16f1a91176eec05994908fbf4ab9335150824c7bef21a90b356de7e7", checked := Try.checked }
namespace Rows
def none {H : Type} : Left H := { results := [], args := [] }

/-- 'fedchatlaw42.ViewChecks': WHATEVER THE INPUT: true; the input reads as it did. -/
def viewChecksSpec : ChangeSpec := { name := "viewChecks", fn := fun _ => fun
  | [d1, d2] => { results := [.lit (.bool true)], args := [d1, d2] }
  | _ => none }
def viewChecksRow : OpenClaim := { program := "ytbehflldghhopaa", sum := "e682910a16f1a91176eec05994908fbf4ab9335150824c7bef21a90b356de7e7", func := "fedchat/fedchatlaw42.ViewChecks", spec := "viewChecks", apart := false }
def ViewChecksSaid : Prop := viewChecksRow.holds Try.pinned (OpenSpec.ofChange viewChecksSpec)

/-- ITS FALSE NEIGHBOUR: 'it returns false'. Refute it at one input. -/
def viewChecksWrong : ChangeSpec := { name := "viewChecks", fn := fun _ => fun
  | [d1, d2] => { results := [.lit (.bool false)], args := [d1, d2] }
  | _ => none }
def ViewChecksWrongFalsely : Prop := viewChecksRow.holds Try.pinned (OpenSpec.ofChange viewChecksWrong)

/-- 'fedchatlaw42.ViewApplies': WHATEVER THE INPUT: true; the input reads as it did. -/
def viewAppliesSpec : ChangeSpec := { name := "viewApplies", fn := fun _ => fun
  | [d1, d2] => { results := [.lit (.bool true)], args := [d1, d2] }
  | _ => none }
def viewAppliesRow : OpenClaim := { program := "ytbehflldghhopaa", sum := "e682910a16f1a91176eec05994908fbf4ab9335150824c7bef21a90b356de7e7", func := "fedchat/fedchatlaw42.ViewApplies", spec := "viewApplies", apart := false }
def ViewAppliesSaid : Prop := viewAppliesRow.holds Try.pinned (OpenSpec.ofChange viewAppliesSpec)

/-- ITS FALSE NEIGHBOUR: 'it returns false'. Refute it at one input. -/
def viewAppliesWrong : ChangeSpec := { name := "viewApplies", fn := fun _ => fun
  | [d1, d2] => { results := [.lit (.bool false)], args := [d1, d2] }
  | _ => none }
def ViewAppliesWrongFalsely : Prop := viewAppliesRow.holds Try.pinned (OpenSpec.ofChange viewAppliesWrong)

/-- 'fedchatlaw42.ViewFills': WHATEVER THE INPUT: true; the input reads as it did. -/
def viewFillsSpec : ChangeSpec := { name := "viewFills", fn := fun _ => fun
  | [d1, d2] => { results := [.lit (.bool true)], args := [d1, d2] }
  | _ => none }
def viewFillsRow : OpenClaim := { program := "ytbehflldghhopaa", sum := "e682910a16f1a91176eec05994908fbf4ab9335150824c7bef21a90b356de7e7", func := "fedchat/fedchatlaw42.ViewFills", spec := "viewFills", apart := false }
def ViewFillsSaid : Prop := viewFillsRow.holds Try.pinned (OpenSpec.ofChange viewFillsSpec)

/-- ITS FALSE NEIGHBOUR: 'it returns false'. Refute it at one input. -/
def viewFillsWrong : ChangeSpec := { name := "viewFills", fn := fun _ => fun
  | [d1, d2] => { results := [.lit (.bool false)], args := [d1, d2] }
  | _ => none }
def ViewFillsWrongFalsely : Prop := viewFillsRow.holds Try.pinned (OpenSpec.ofChange viewFillsWrong)

/-- 'fedchatlaw42.ViewStays': WHATEVER THE INPUT: true; the input reads as it did. -/
def viewStaysSpec : ChangeSpec := { name := "viewStays", fn := fun _ => fun
  | [d1, d2, d3] => { results := [.lit (.bool true)], args := [d1, d2, d3] }
  | _ => none }
def viewStaysRow : OpenClaim := { program := "ytbehflldghhopaa", sum := "e682910a16f1a91176eec05994908fbf4ab9335150824c7bef21a90b356de7e7", func := "fedchat/fedchatlaw42.ViewStays", spec := "viewStays", apart := false }
def ViewStaysSaid : Prop := viewStaysRow.holds Try.pinned (OpenSpec.ofChange viewStaysSpec)

/-- ITS FALSE NEIGHBOUR: 'it returns false'. Refute it at one input. -/
def viewStaysWrong : ChangeSpec := { name := "viewStays", fn := fun _ => fun
  | [d1, d2, d3] => { results := [.lit (.bool false)], args := [d1, d2, d3] }
  | _ => none }
def ViewStaysWrongFalsely : Prop := viewStaysRow.holds Try.pinned (OpenSpec.ofChange viewStaysWrong)

/-- 'fedchatlaw42.ViewKeeps': WHATEVER THE INPUT: true; the input reads as it did. -/
def viewKeepsSpec : ChangeSpec := { name := "viewKeeps", fn := fun _ => fun
  | [d1, d2, d3] => { results := [.lit (.bool true)], args := [d1, d2, d3] }
  | _ => none }
def viewKeepsRow : OpenClaim := { program := "ytbehflldghhopaa", sum := "e682910a16f1a91176eec05994908fbf4ab9335150824c7bef21a90b356de7e7", func := "fedchat/fedchatlaw42.ViewKeeps", spec := "viewKeeps", apart := false }
def ViewKeepsSaid : Prop := viewKeepsRow.holds Try.pinned (OpenSpec.ofChange viewKeepsSpec)

/-- ITS FALSE NEIGHBOUR: 'it returns false'. Refute it at one input. -/
def viewKeepsWrong : ChangeSpec := { name := "viewKeeps", fn := fun _ => fun
  | [d1, d2, d3] => { results := [.lit (.bool false)], args := [d1, d2, d3] }
  | _ => none }
def ViewKeepsWrongFalsely : Prop := viewKeepsRow.holds Try.pinned (OpenSpec.ofChange viewKeepsWrong)

/-- 'fedchatlaw42.ViewConverges': WHATEVER THE INPUT: true; the input reads as it did. -/
def viewConvergesSpec : ChangeSpec := { name := "viewConverges", fn := fun _ => fun
  | [d1, d2, d3] => { results := [.lit (.bool true)], args := [d1, d2, d3] }
  | _ => none }
def viewConvergesRow : OpenClaim := { program := "ytbehflldghhopaa", sum := "e682910a16f1a91176eec05994908fbf4ab9335150824c7bef21a90b356de7e7", func := "fedchat/fedchatlaw42.ViewConverges", spec := "viewConverges", apart := false }
def ViewConvergesSaid : Prop := viewConvergesRow.holds Try.pinned (OpenSpec.ofChange viewConvergesSpec)

/-- ITS FALSE NEIGHBOUR: 'it returns false'. Refute it at one input. -/
def viewConvergesWrong : ChangeSpec := { name := "viewConverges", fn := fun _ => fun
  | [d1, d2, d3] => { results := [.lit (.bool false)], args := [d1, d2, d3] }
  | _ => none }
def ViewConvergesWrongFalsely : Prop := viewConvergesRow.holds Try.pinned (OpenSpec.ofChange viewConvergesWrong)

/- THE SECOND FORM. 'bulk': how many values and letters a reading holds, each counted each time it is reached (what is shared counts as often as it is met; a slice's spare places count too). A statement '..UptoSaid' is the law's where the arguments, and the package variables that the reading takes, are together of bulk at most 1048576: NARROWER than '..Said'. Prove '..Said' where nothing that the law and all that it calls make is longer than what came in: it says more and counts as full. Else prove '..UptoSaid'. A law counts once. -/
mutual
def uptoBulk {H : Type} : DataW H → Nat
  | .lit (.string bytes) => bytes.length + 1
  | .lit _ => 1
  | .nil => 1
  | .ptr d => uptoBulk d + 1
  | .slice elems spare => uptoBulkAll elems + uptoBulkAll spare + 1
  | .agg parts => uptoBulkAll parts + 1
  | .iface _ d => uptoBulk d + 1
  | .map entries => uptoBulkEntries entries + 1
  | .held _ => 1
def uptoBulkAll {H : Type} : List (DataW H) → Nat
  | [] => 0
  | d :: r => uptoBulk d + uptoBulkAll r
def uptoBulkEntries {H : Type} : List (Lit × DataW H) → Nat
  | [] => 0
  | x :: r => uptoBulkEntry x + uptoBulkEntries r
def uptoBulkEntry {H : Type} : Lit × DataW H → Nat
  | (.string bytes, d) => bytes.length + uptoBulk d + 1
  | (_, d) => uptoBulk d + 1
 end
def uptoSmall : (H : Type) → List (DataW H) → Bool := fun _ ds => decide (uptoBulkAll ds ≤ 1048576)
def OpenSpec.upto (s : _root_.Go.ChangeSpec) : _root_.Go.OpenSpec := { _root_.Go.OpenSpec.ofChange s with cond := some uptoSmall }

/-- 'fedchatlaw42.ViewChecks', WHERE WHAT IT READS IS OF BULK AT MOST 1048576: true; the input reads as it did. -/
def viewChecksUptoRow : OpenClaim := { program := "ytbehflldghhopaa", sum := "e682910a16f1a91176eec05994908fbf4ab9335150824c7bef21a90b356de7e7", func := "fedchat/fedchatlaw42.ViewChecks", spec := "viewChecks", apart := false, narrowed := true }
def ViewChecksUptoSaid : Prop := viewChecksUptoRow.holds Try.pinned (OpenSpec.upto viewChecksSpec)

/-- 'fedchatlaw42.ViewApplies', WHERE WHAT IT READS IS OF BULK AT MOST 1048576: true; the input reads as it did. -/
def viewAppliesUptoRow : OpenClaim := { program := "ytbehflldghhopaa", sum := "e682910a16f1a91176eec05994908fbf4ab9335150824c7bef21a90b356de7e7", func := "fedchat/fedchatlaw42.ViewApplies", spec := "viewApplies", apart := false, narrowed := true }
def ViewAppliesUptoSaid : Prop := viewAppliesUptoRow.holds Try.pinned (OpenSpec.upto viewAppliesSpec)

/-- 'fedchatlaw42.ViewFills', WHERE WHAT IT READS IS OF BULK AT MOST 1048576: true; the input reads as it did. -/
def viewFillsUptoRow : OpenClaim := { program := "ytbehflldghhopaa", sum := "e682910a16f1a91176eec05994908fbf4ab9335150824c7bef21a90b356de7e7", func := "fedchat/fedchatlaw42.ViewFills", spec := "viewFills", apart := false, narrowed := true }
def ViewFillsUptoSaid : Prop := viewFillsUptoRow.holds Try.pinned (OpenSpec.upto viewFillsSpec)

/-- 'fedchatlaw42.ViewStays', WHERE WHAT IT READS IS OF BULK AT MOST 1048576: true; the input reads as it did. -/
def viewStaysUptoRow : OpenClaim := { program := "ytbehflldghhopaa", sum := "e682910a16f1a91176eec05994908fbf4ab9335150824c7bef21a90b356de7e7", func := "fedchat/fedchatlaw42.ViewStays", spec := "viewStays", apart := false, narrowed := true }
def ViewStaysUptoSaid : Prop := viewStaysUptoRow.holds Try.pinned (OpenSpec.upto viewStaysSpec)

/-- 'fedchatlaw42.ViewKeeps', WHERE WHAT IT READS IS OF BULK AT MOST 1048576: true; the input reads as it did. -/
def viewKeepsUptoRow : OpenClaim := { program := "ytbehflldghhopaa", sum := "e682910a16f1a91176eec05994908fbf4ab9335150824c7bef21a90b356de7e7", func := "fedchat/fedchatlaw42.ViewKeeps", spec := "viewKeeps", apart := false, narrowed := true }
def ViewKeepsUptoSaid : Prop := viewKeepsUptoRow.holds Try.pinned (OpenSpec.upto viewKeepsSpec)

/-- 'fedchatlaw42.ViewConverges', WHERE WHAT IT READS IS OF BULK AT MOST 1048576: true; the input reads as it did. -/
def viewConvergesUptoRow : OpenClaim := { program := "ytbehflldghhopaa", sum := "e682910a16f1a91176eec05994908fbf4ab9335150824c7bef21a90b356de7e7", func := "fedchat/fedchatlaw42.ViewConverges", spec := "viewConverges", apart := false, narrowed := true }
def ViewConvergesUptoSaid : Prop := viewConvergesUptoRow.holds Try.pinned (OpenSpec.upto viewConvergesSpec)

end Rows
end Go.Proofs.Ytbehflldghhopaa

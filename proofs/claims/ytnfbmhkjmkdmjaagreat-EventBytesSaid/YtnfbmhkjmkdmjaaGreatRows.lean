/-
  No cell of these rows narrows 'for every input' (looked for: loops, veiled, ifaces, maps, wideKeys, modest, calm, conditions, laid).
  DERIVED. THE GIVEN ROWS OF THIS SEAT. 6 by the template 'for every input the law returns true; each argument reads behind the call as it read before'; 0 by the template 'total and deterministic' (their statements: YtnfbmhkjmkdmjaaGreatTotals.lean).
  GIVEN WITH THE SEED: the statements are not yours to turn. If you find one false, say at which input.
  Laid BY PROGRAM, IN A SANDBOX (cutbox-rows.mjs): the forced cells as the released guide's own fill.sh prints them over the translation 4de282c5e592af72… (all of the seat's roots in one cut). By AI agents, Wed Nov 11 2026. No macro, syntax, notation, axiom, sorry.
-/
import Derived.Test.YtnfbmhkjmkdmjaaGreatChecked
import GoSem.Claim
import GoSem.ClaimJoined
import GoSem.ClaimMapViews
import Derived.JoinedTies
import Derived.KernelRfl
namespace Go.Proofs.YtnfbmhkjmkdmjaaGreat
/- THE CELL 'sum', in the pinned program and in every row, IS THE sha256 OF THE DUMP (.gsa) THAT YtnfbmhkjmkdmjaaGreatProg.lean LOADS. Nothing in Lean hashes anything: it is a label: what it is worth is what the hold of that sum in a sandbox is worth. -/
noncomputable def Tryz.pinned : Pinned := { name := "ytnfbmhkjmkdmjaagreat", sum := "4de282c5e592af72797cad0e842357e860090ee108e8978081e32a70812a6839", checked := Tryz.checked }
namespace Rows
def none {H : Type} : Left H := { results := [], args := [] }

/-- 'fedchatlaw07.EventChecks': WHATEVER THE INPUT: true; the input reads as it did. -/
def eventChecksSpec : ChangeSpec := { name := "eventChecks", fn := fun _ => fun
  | [d] => { results := [.lit (.bool true)], args := [d] }
  | _ => none }
def eventChecksRow : OpenClaim := { program := "ytnfbmhkjmkdmjaagreat", sum := "4de282c5e592af72797cad0e842357e860090ee108e8978081e32a70812a6839", func := "fedchat/fedchatlaw07.EventChecks", spec := "eventChecks", inPlace := ["internal/bytealg.IndexByteString", "internal/bytealg.IndexString"], unfollowed := true, recurses := true, named := ["internal/bytealg.MaxLen"], apart := false }
def EventChecksSaid : Prop := eventChecksRow.holds Tryz.pinned (OpenSpec.ofChange eventChecksSpec)

/-- ITS FALSE NEIGHBOUR: 'it returns false'. Refute it at one input. -/
def eventChecksWrong : ChangeSpec := { name := "eventChecks", fn := fun _ => fun
  | [d] => { results := [.lit (.bool false)], args := [d] }
  | _ => none }
def EventChecksWrongFalsely : Prop := eventChecksRow.holds Tryz.pinned (OpenSpec.ofChange eventChecksWrong)

/-- 'fedchatlaw07.EventIds': WHATEVER THE INPUT: true; the input reads as it did. -/
def eventIdsSpec : ChangeSpec := { name := "eventIds", fn := fun _ => fun
  | [d1, d2, d3] => { results := [.lit (.bool true)], args := [d1, d2, d3] }
  | _ => none }
def eventIdsRow : OpenClaim := { program := "ytnfbmhkjmkdmjaagreat", sum := "4de282c5e592af72797cad0e842357e860090ee108e8978081e32a70812a6839", func := "fedchat/fedchatlaw07.EventIds", spec := "eventIds", inPlace := ["internal/bytealg.IndexByteString", "internal/bytealg.IndexString"], unfollowed := true, recurses := true, named := ["internal/bytealg.MaxLen"], apart := false }
def EventIdsSaid : Prop := eventIdsRow.holds Tryz.pinned (OpenSpec.ofChange eventIdsSpec)

/-- ITS FALSE NEIGHBOUR: 'it returns false'. Refute it at one input. -/
def eventIdsWrong : ChangeSpec := { name := "eventIds", fn := fun _ => fun
  | [d1, d2, d3] => { results := [.lit (.bool false)], args := [d1, d2, d3] }
  | _ => none }
def EventIdsWrongFalsely : Prop := eventIdsRow.holds Tryz.pinned (OpenSpec.ofChange eventIdsWrong)

/-- 'fedchatlaw07.EventSigns': WHATEVER THE INPUT: true; the input reads as it did. -/
def eventSignsSpec : ChangeSpec := { name := "eventSigns", fn := fun _ => fun
  | [d1, d2] => { results := [.lit (.bool true)], args := [d1, d2] }
  | _ => none }
def eventSignsRow : OpenClaim := { program := "ytnfbmhkjmkdmjaagreat", sum := "4de282c5e592af72797cad0e842357e860090ee108e8978081e32a70812a6839", func := "fedchat/fedchatlaw07.EventSigns", spec := "eventSigns", inPlace := ["internal/bytealg.IndexByteString", "internal/bytealg.IndexString"], unfollowed := true, recurses := true, named := ["internal/bytealg.MaxLen"], apart := false }
def EventSignsSaid : Prop := eventSignsRow.holds Tryz.pinned (OpenSpec.ofChange eventSignsSpec)

/-- ITS FALSE NEIGHBOUR: 'it returns false'. Refute it at one input. -/
def eventSignsWrong : ChangeSpec := { name := "eventSigns", fn := fun _ => fun
  | [d1, d2] => { results := [.lit (.bool false)], args := [d1, d2] }
  | _ => none }
def EventSignsWrongFalsely : Prop := eventSignsRow.holds Tryz.pinned (OpenSpec.ofChange eventSignsWrong)

/-- 'fedchatlaw07.EventReceives': WHATEVER THE INPUT: true; the input reads as it did. -/
def eventReceivesSpec : ChangeSpec := { name := "eventReceives", fn := fun _ => fun
  | [d] => { results := [.lit (.bool true)], args := [d] }
  | _ => none }
def eventReceivesRow : OpenClaim := { program := "ytnfbmhkjmkdmjaagreat", sum := "4de282c5e592af72797cad0e842357e860090ee108e8978081e32a70812a6839", func := "fedchat/fedchatlaw07.EventReceives", spec := "eventReceives", inPlace := ["internal/bytealg.IndexByteString", "internal/bytealg.IndexString"], unfollowed := true, recurses := true, named := ["internal/bytealg.MaxLen"], apart := false }
def EventReceivesSaid : Prop := eventReceivesRow.holds Tryz.pinned (OpenSpec.ofChange eventReceivesSpec)

/-- ITS FALSE NEIGHBOUR: 'it returns false'. Refute it at one input. -/
def eventReceivesWrong : ChangeSpec := { name := "eventReceives", fn := fun _ => fun
  | [d] => { results := [.lit (.bool false)], args := [d] }
  | _ => none }
def EventReceivesWrongFalsely : Prop := eventReceivesRow.holds Tryz.pinned (OpenSpec.ofChange eventReceivesWrong)

/-- 'fedchatlaw07.EventBytes': WHATEVER THE INPUT: true; the input reads as it did. -/
def eventBytesSpec : ChangeSpec := { name := "eventBytes", fn := fun _ => fun
  | [d1, d2] => { results := [.lit (.bool true)], args := [d1, d2] }
  | _ => none }
def eventBytesRow : OpenClaim := { program := "ytnfbmhkjmkdmjaagreat", sum := "4de282c5e592af72797cad0e842357e860090ee108e8978081e32a70812a6839", func := "fedchat/fedchatlaw07.EventBytes", spec := "eventBytes", inPlace := ["internal/bytealg.IndexByteString", "internal/bytealg.IndexString"], unfollowed := true, recurses := true, named := ["internal/bytealg.MaxLen"], apart := false }
def EventBytesSaid : Prop := eventBytesRow.holds Tryz.pinned (OpenSpec.ofChange eventBytesSpec)

/-- ITS FALSE NEIGHBOUR: 'it returns false'. Refute it at one input. -/
def eventBytesWrong : ChangeSpec := { name := "eventBytes", fn := fun _ => fun
  | [d1, d2] => { results := [.lit (.bool false)], args := [d1, d2] }
  | _ => none }
def EventBytesWrongFalsely : Prop := eventBytesRow.holds Tryz.pinned (OpenSpec.ofChange eventBytesWrong)

/-- 'fedchatlaw07.EventDecodes': WHATEVER THE INPUT: true; the input reads as it did. -/
def eventDecodesSpec : ChangeSpec := { name := "eventDecodes", fn := fun _ => fun
  | [d] => { results := [.lit (.bool true)], args := [d] }
  | _ => none }
def eventDecodesRow : OpenClaim := { program := "ytnfbmhkjmkdmjaagreat", sum := "4de282c5e592af72797cad0e842357e860090ee108e8978081e32a70812a6839", func := "fedchat/fedchatlaw07.EventDecodes", spec := "eventDecodes", inPlace := ["internal/bytealg.IndexByteString", "internal/bytealg.IndexString"], unfollowed := true, recurses := true, named := ["internal/bytealg.MaxLen"], apart := false }
def EventDecodesSaid : Prop := eventDecodesRow.holds Tryz.pinned (OpenSpec.ofChange eventDecodesSpec)

/-- ITS FALSE NEIGHBOUR: 'it returns false'. Refute it at one input. -/
def eventDecodesWrong : ChangeSpec := { name := "eventDecodes", fn := fun _ => fun
  | [d] => { results := [.lit (.bool false)], args := [d] }
  | _ => none }
def EventDecodesWrongFalsely : Prop := eventDecodesRow.holds Tryz.pinned (OpenSpec.ofChange eventDecodesWrong)

/- THE SECOND FORM. 'bulk': how many values and letters a reading holds, each counted each time it is reached (what is shared counts as often as it is met; a slice's spare places count too). A statement '..UptoSaid' is the law's where the arguments, and the package variables that the reading takes, are together of bulk at most 1048576: NARROWER than '..Said'. Prove '..Said' where nothing that the law and all that it calls make is longer than what came in: it says more and counts as full. Else prove '..UptoSaid'. A law counts once. -/
mutual
def uptoBulk {H : Type} : DataW H → Nat
  | .lit (.string bytes) => bytes.length + 1
  | .lit _ => 1
  | .nil => 1
  | .ptr d => uptoBulk d + 1
  | .slice elems spare => uptoBulkAll elems + uptoBulkAll spare + 1
  | .agg parts => uptoBulkAll parts + 1
  | .iface _ d => uptoBulk d + 1
  | .map entries => uptoBulkEntries entries + 1
  | .held _ => 1
def uptoBulkAll {H : Type} : List (DataW H) → Nat
  | [] => 0
  | d :: r => uptoBulk d + uptoBulkAll r
def uptoBulkEntries {H : Type} : List (Lit × DataW H) → Nat
  | [] => 0
  | x :: r => uptoBulkEntry x + uptoBulkEntries r
def uptoBulkEntry {H : Type} : Lit × DataW H → Nat
  | (.string bytes, d) => bytes.length + uptoBulk d + 1
  | (_, d) => uptoBulk d + 1
 end
def uptoSmall : (H : Type) → List (DataW H) → Bool := fun _ ds => decide (uptoBulkAll ds ≤ 1048576)
def OpenSpec.upto (s : _root_.Go.ChangeSpec) : _root_.Go.OpenSpec := { _root_.Go.OpenSpec.ofChange s with cond := some uptoSmall }

/-- 'fedchatlaw07.EventChecks', WHERE WHAT IT READS IS OF BULK AT MOST 1048576: true; the input reads as it did. -/
def eventChecksUptoRow : OpenClaim := { program := "ytnfbmhkjmkdmjaagreat", sum := "4de282c5e592af72797cad0e842357e860090ee108e8978081e32a70812a6839", func := "fedchat/fedchatlaw07.EventChecks", spec := "eventChecks", inPlace := ["internal/bytealg.IndexByteString", "internal/bytealg.IndexString"], unfollowed := true, recurses := true, named := ["internal/bytealg.MaxLen"], apart := false, narrowed := true }
def EventChecksUptoSaid : Prop := eventChecksUptoRow.holds Tryz.pinned (OpenSpec.upto eventChecksSpec)

/-- 'fedchatlaw07.EventIds', WHERE WHAT IT READS IS OF BULK AT MOST 1048576: true; the input reads as it did. -/
def eventIdsUptoRow : OpenClaim := { program := "ytnfbmhkjmkdmjaagreat", sum := "4de282c5e592af72797cad0e842357e860090ee108e8978081e32a70812a6839", func := "fedchat/fedchatlaw07.EventIds", spec := "eventIds", inPlace := ["internal/bytealg.IndexByteString", "internal/bytealg.IndexString"], unfollowed := true, recurses := true, named := ["internal/bytealg.MaxLen"], apart := false, narrowed := true }
def EventIdsUptoSaid : Prop := eventIdsUptoRow.holds Tryz.pinned (OpenSpec.upto eventIdsSpec)

/-- 'fedchatlaw07.EventSigns', WHERE WHAT IT READS IS OF BULK AT MOST 1048576: true; the input reads as it did. -/
def eventSignsUptoRow : OpenClaim := { program := "ytnfbmhkjmkdmjaagreat", sum := "4de282c5e592af72797cad0e842357e860090ee108e8978081e32a70812a6839", func := "fedchat/fedchatlaw07.EventSigns", spec := "eventSigns", inPlace := ["internal/bytealg.IndexByteString", "internal/bytealg.IndexString"], unfollowed := true, recurses := true, named := ["internal/bytealg.MaxLen"], apart := false, narrowed := true }
def EventSignsUptoSaid : Prop := eventSignsUptoRow.holds Tryz.pinned (OpenSpec.upto eventSignsSpec)

/-- 'fedchatlaw07.EventReceives', WHERE WHAT IT READS IS OF BULK AT MOST 1048576: true; the input reads as it did. -/
def eventReceivesUptoRow : OpenClaim := { program := "ytnfbmhkjmkdmjaagreat", sum := "4de282c5e592af72797cad0e842357e860090ee108e8978081e32a70812a6839", func := "fedchat/fedchatlaw07.EventReceives", spec := "eventReceives", inPlace := ["internal/bytealg.IndexByteString", "internal/bytealg.IndexString"], unfollowed := true, recurses := true, named := ["internal/bytealg.MaxLen"], apart := false, narrowed := true }
def EventReceivesUptoSaid : Prop := eventReceivesUptoRow.holds Tryz.pinned (OpenSpec.upto eventReceivesSpec)

/-- 'fedchatlaw07.EventBytes', WHERE WHAT IT READS IS OF BULK AT MOST 1048576: true; the input reads as it did. -/
def eventBytesUptoRow : OpenClaim := { program := "ytnfbmhkjmkdmjaagreat", sum := "4de282c5e592af72797cad0e842357e860090ee108e8978081e32a70812a6839", func := "fedchat/fedchatlaw07.EventBytes", spec := "eventBytes", inPlace := ["internal/bytealg.IndexByteString", "internal/bytealg.IndexString"], unfollowed := true, recurses := true, named := ["internal/bytealg.MaxLen"], apart := false, narrowed := true }
def EventBytesUptoSaid : Prop := eventBytesUptoRow.holds Tryz.pinned (OpenSpec.upto eventBytesSpec)

/-- 'fedchatlaw07.EventDecodes', WHERE WHAT IT READS IS OF BULK AT MOST 1048576: true; the input reads as it did. -/
def eventDecodesUptoRow : OpenClaim := { program := "ytnfbmhkjmkdmjaagreat", sum := "4de282c5e592af72797cad0e842357e860090ee108e8978081e32a70812a6839", func := "fedchat/fedchatlaw07.EventDecodes", spec := "eventDecodes", inPlace := ["internal/bytealg.IndexByteString", "internal/bytealg.IndexString"], unfollowed := true, recurses := true, named := ["internal/bytealg.MaxLen"], apart := false, narrowed := true }
def EventDecodesUptoSaid : Prop := eventDecodesUptoRow.holds Tryz.pinned (OpenSpec.upto eventDecodesSpec)

end Rows
end Go.Proofs.YtnfbmhkjmkdmjaaGreat

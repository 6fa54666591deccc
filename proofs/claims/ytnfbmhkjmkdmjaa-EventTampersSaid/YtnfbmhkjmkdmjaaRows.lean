/-
  No cell of these rows narrows 'for every input' (looked for: loops, veiled, ifaces, maps, wideKeys, modest, calm, conditions, laid).
  DERIVED. THE GIVEN ROWS OF THIS SEAT. 4 by the template 'for every input the law returns true; each argument reads behind the call as it read before'; 0 by the template 'total and deterministic' (their statements: YtnfbmhkjmkdmjaaTotals.lean).
  GIVEN WITH THE SEED: the statements are not yours to turn. If you find one false, say at which input.
  Laid BY PROGRAM, IN A SANDBOX (cutbox-rows.mjs): the forced cells as the released guide's own fill.sh prints them over the translation 5a1aafd4d2860dc5… (all of the seat's roots in one cut). By AI agents, Wed Nov 11 2026. No macro, syntax, notation, axiom, sorry.
-/
import Derived.Test.YtnfbmhkjmkdmjaaChecked
import GoSem.Claim
import GoSem.ClaimJoined
import GoSem.ClaimMapViews
import Derived.JoinedTies
import Derived.KernelRfl
namespace Go.Proofs.Ytnfbmhkjmkdmjaa
/- THE CELL 'sum', in the pinned program and in every row, IS THE sha256 OF THE DUMP (.gsa) THAT YtnfbmhkjmkdmjaaProg.lean LOADS. Nothing in Lean hashes anything: it is a label: what it is worth is what the hold of that sum in a sandbox is worth. -/
noncomputable def Try.pinned : Pinned := { name := "ytnfbmhkjmkdmjaa", sum := "5a1aafd4d2860dc5eac011ef9e1a0195ce4b2542a9445e5f6cf62c91d424a879", checked := Try.checked }
namespace Rows
def none {H : Type} : Left H := { results := [], args := [] }

/-- 'fedchatlaw07.EventStrips': WHATEVER THE INPUT: true; the input reads as it did. -/
def eventStripsSpec : ChangeSpec := { name := "eventStrips", fn := fun _ => fun
  | [d] => { results := [.lit (.bool true)], args := [d] }
  | _ => none }
def eventStripsRow : OpenClaim := { program := "ytnfbmhkjmkdmjaa", sum := "5a1aafd4d2860dc5eac011ef9e1a0195ce4b2542a9445e5f6cf62c91d424a879", func := "fedchat/fedchatlaw07.EventStrips", spec := "eventStrips", inPlace := ["internal/bytealg.IndexByteString", "internal/bytealg.IndexString"], unfollowed := true, recurses := true, named := ["internal/bytealg.MaxLen"], apart := false }
def EventStripsSaid : Prop := eventStripsRow.holds Try.pinned (OpenSpec.ofChange eventStripsSpec)

/-- ITS FALSE NEIGHBOUR: 'it returns false'. Refute it at one input. -/
def eventStripsWrong : ChangeSpec := { name := "eventStrips", fn := fun _ => fun
  | [d] => { results := [.lit (.bool false)], args := [d] }
  | _ => none }
def EventStripsWrongFalsely : Prop := eventStripsRow.holds Try.pinned (OpenSpec.ofChange eventStripsWrong)

/-- 'fedchatlaw07.EventTampers': WHATEVER THE INPUT: true; the input reads as it did. -/
def eventTampersSpec : ChangeSpec := { name := "eventTampers", fn := fun _ => fun
  | [d1, d2] => { results := [.lit (.bool true)], args := [d1, d2] }
  | _ => none }
def eventTampersRow : OpenClaim := { program := "ytnfbmhkjmkdmjaa", sum := "5a1aafd4d2860dc5eac011ef9e1a0195ce4b2542a9445e5f6cf62c91d424a879", func := "fedchat/fedchatlaw07.EventTampers", spec := "eventTampers", inPlace := ["internal/bytealg.IndexByteString", "internal/bytealg.IndexString"], unfollowed := true, recurses := true, named := ["internal/bytealg.MaxLen"], apart := false }
def EventTampersSaid : Prop := eventTampersRow.holds Try.pinned (OpenSpec.ofChange eventTampersSpec)

/-- ITS FALSE NEIGHBOUR: 'it returns false'. Refute it at one input. -/
def eventTampersWrong : ChangeSpec := { name := "eventTampers", fn := fun _ => fun
  | [d1, d2] => { results := [.lit (.bool false)], args := [d1, d2] }
  | _ => none }
def EventTampersWrongFalsely : Prop := eventTampersRow.holds Try.pinned (OpenSpec.ofChange eventTampersWrong)

/-- 'fedchatlaw07.EventContents': WHATEVER THE INPUT: true; the input reads as it did. -/
def eventContentsSpec : ChangeSpec := { name := "eventContents", fn := fun _ => fun
  | [d1, d2] => { results := [.lit (.bool true)], args := [d1, d2] }
  | _ => none }
def eventContentsRow : OpenClaim := { program := "ytnfbmhkjmkdmjaa", sum := "5a1aafd4d2860dc5eac011ef9e1a0195ce4b2542a9445e5f6cf62c91d424a879", func := "fedchat/fedchatlaw07.EventContents", spec := "eventContents", inPlace := ["internal/bytealg.IndexByteString", "internal/bytealg.IndexString"], unfollowed := true, recurses := true, named := ["internal/bytealg.MaxLen"], apart := false }
def EventContentsSaid : Prop := eventContentsRow.holds Try.pinned (OpenSpec.ofChange eventContentsSpec)

/-- ITS FALSE NEIGHBOUR: 'it returns false'. Refute it at one input. -/
def eventContentsWrong : ChangeSpec := { name := "eventContents", fn := fun _ => fun
  | [d1, d2] => { results := [.lit (.bool false)], args := [d1, d2] }
  | _ => none }
def EventContentsWrongFalsely : Prop := eventContentsRow.holds Try.pinned (OpenSpec.ofChange eventContentsWrong)

/-- 'fedchatlaw07.EventSame': WHATEVER THE INPUT: true; the input reads as it did. -/
def eventSameSpec : ChangeSpec := { name := "eventSame", fn := fun _ => fun
  | [d1, d2] => { results := [.lit (.bool true)], args := [d1, d2] }
  | _ => none }
def eventSameRow : OpenClaim := { program := "ytnfbmhkjmkdmjaa", sum := "5a1aafd4d2860dc5eac011ef9e1a0195ce4b2542a9445e5f6cf62c91d424a879", func := "fedchat/fedchatlaw07.EventSame", spec := "eventSame", inPlace := ["internal/bytealg.IndexByteString", "internal/bytealg.IndexString"], unfollowed := true, recurses := true, named := ["internal/bytealg.MaxLen"], apart := false }
def EventSameSaid : Prop := eventSameRow.holds Try.pinned (OpenSpec.ofChange eventSameSpec)

/-- ITS FALSE NEIGHBOUR: 'it returns false'. Refute it at one input. -/
def eventSameWrong : ChangeSpec := { name := "eventSame", fn := fun _ => fun
  | [d1, d2] => { results := [.lit (.bool false)], args := [d1, d2] }
  | _ => none }
def EventSameWrongFalsely : Prop := eventSameRow.holds Try.pinned (OpenSpec.ofChange eventSameWrong)

/- THE SECOND FORM. 'bulk': how many values and letters a reading holds, each counted each time it is reached (what is shared counts as often as it is met; a slice's spare places count too). A statement '..UptoSaid' is the law's where the arguments, and the package variables that the reading takes, are together of bulk at most 1048576: NARROWER than '..Said'. Prove '..Said' where nothing that the law and all that it calls make is longer than what came in: it says more and counts as full. Else prove '..UptoSaid'. A law counts once. -/
mutual
def uptoBulk {H : Type} : DataW H → Nat
  | .lit (.string bytes) => bytes.length + 1
  | .lit _ => 1
  | .nil => 1
  | .ptr d => uptoBulk d + 1
  | .slice elems spare => uptoBulkAll elems + uptoBulkAll spare + 1
  | .agg parts => uptoBulkAll parts + 1
  | .iface _ d => uptoBulk d + 1
  | .map entries => uptoBulkEntries entries + 1
  | .held _ => 1
def uptoBulkAll {H : Type} : List (DataW H) → Nat
  | [] => 0
  | d :: r => uptoBulk d + uptoBulkAll r
def uptoBulkEntries {H : Type} : List (Lit × DataW H) → Nat
  | [] => 0
  | x :: r => uptoBulkEntry x + uptoBulkEntries r
def uptoBulkEntry {H : Type} : Lit × DataW H → Nat
  | (.string bytes, d) => bytes.length + uptoBulk d + 1
  | (_, d) => uptoBulk d + 1
 end
def uptoSmall : (H : Type) → List (DataW H) → Bool := fun _ ds => decide (uptoBulkAll ds ≤ 1048576)
def OpenSpec.upto (s : _root_.Go.ChangeSpec) : _root_.Go.OpenSpec := { _root_.Go.OpenSpec.ofChange s with cond := some uptoSmall }

/-- 'fedchatlaw07.EventStrips', WHERE WHAT IT READS IS OF BULK AT MOST 1048576: true; the input reads as it did. -/
def eventStripsUptoRow : OpenClaim := { program := "ytnfbmhkjmkdmjaa", sum := "5a1aafd4d2860dc5eac011ef9e1a0195ce4b2542a9445e5f6cf62c91d424a879", func := "fedchat/fedchatlaw07.EventStrips", spec := "eventStrips", inPlace := ["internal/bytealg.IndexByteString", "internal/bytealg.IndexString"], unfollowed := true, recurses := true, named := ["internal/bytealg.MaxLen"], apart := false, narrowed := true }
def EventStripsUptoSaid : Prop := eventStripsUptoRow.holds Try.pinned (OpenSpec.upto eventStripsSpec)

/-- 'fedchatlaw07.EventTampers', WHERE WHAT IT READS IS OF BULK AT MOST 1048576: true; the input reads as it did. -/
def eventTampersUptoRow : OpenClaim := { program := "ytnfbmhkjmkdmjaa", sum := "5a1aafd4d2860dc5eac011ef9e1a0195ce4b2542a9445e5f6cf62c91d424a879", func := "fedchat/fedchatlaw07.EventTampers", spec := "eventTampers", inPlace := ["internal/bytealg.IndexByteString", "internal/bytealg.IndexString"], unfollowed := true, recurses := true, named := ["internal/bytealg.MaxLen"], apart := false, narrowed := true }
def EventTampersUptoSaid : Prop := eventTampersUptoRow.holds Try.pinned (OpenSpec.upto eventTampersSpec)

/-- 'fedchatlaw07.EventContents', WHERE WHAT IT READS IS OF BULK AT MOST 1048576: true; the input reads as it did. -/
def eventContentsUptoRow : OpenClaim := { program := "ytnfbmhkjmkdmjaa", sum := "5a1aafd4d2860dc5eac011ef9e1a0195ce4b2542a9445e5f6cf62c91d424a879", func := "fedchat/fedchatlaw07.EventContents", spec := "eventContents", inPlace := ["internal/bytealg.IndexByteString", "internal/bytealg.IndexString"], unfollowed := true, recurses := true, named := ["internal/bytealg.MaxLen"], apart := false, narrowed := true }
def EventContentsUptoSaid : Prop := eventContentsUptoRow.holds Try.pinned (OpenSpec.upto eventContentsSpec)

/-- 'fedchatlaw07.EventSame', WHERE WHAT IT READS IS OF BULK AT MOST 1048576: true; the input reads as it did. -/
def eventSameUptoRow : OpenClaim := { program := "ytnfbmhkjmkdmjaa", sum := "5a1aafd4d2860dc5eac011ef9e1a0195ce4b2542a9445e5f6cf62c91d424a879", func := "fedchat/fedchatlaw07.EventSame", spec := "eventSame", inPlace := ["internal/bytealg.IndexByteString", "internal/bytealg.IndexString"], unfollowed := true, recurses := true, named := ["internal/bytealg.MaxLen"], apart := false, narrowed := true }
def EventSameUptoSaid : Prop := eventSameUptoRow.holds Try.pinned (OpenSpec.upto eventSameSpec)

end Rows
end Go.Proofs.Ytnfbmhkjmkdmjaa

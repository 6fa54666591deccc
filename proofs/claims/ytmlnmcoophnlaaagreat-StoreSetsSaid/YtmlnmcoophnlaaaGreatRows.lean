/-
  No cell of these rows narrows 'for every input' (looked for: loops, veiled, ifaces, maps, wideKeys, modest, calm, conditions, laid).
  DERIVED. THE GIVEN ROWS OF THIS SEAT. 7 by the template 'for every input the law returns true; each argument reads behind the call as it read before'; 0 by the template 'total and deterministic' (their statements: YtmlnmcoophnlaaaGreatTotals.lean).
  GIVEN WITH THE SEED: the statements are not yours to turn. If you find one false, say at which input.
  Laid BY PROGRAM, IN A SANDBOX (cutbox-rows.mjs): the forced cells as the released guide's own fill.sh prints them over the translation a8c2f20babffe5cc… (all of the seat's roots in one cut). By AI agents, Wed Nov 11 2026. No macro, syntax, notation, axiom, sorry.
-/
import Derived.Test.YtmlnmcoophnlaaaGreatChecked
import GoSem.Claim
import GoSem.ClaimJoined
import GoSem.ClaimMapViews
import Derived.JoinedTies
import Derived.KernelRfl
namespace Go.Proofs.YtmlnmcoophnlaaaGreat
/- THE CELL 'sum', in the pinned program and in every row, IS THE sha256 OF THE DUMP (.gsa) THAT YtmlnmcoophnlaaaGreatProg.lean LOADS. Nothing in Lean hashes anything: it is a label: what it is worth is what the hold of that sum in a sandbox is worth. -/
noncomputable def Tryz.pinned : Pinned := { name := "ytmlnmcoophnlaaagreat", sum := "a8c2f20babffe5ccf2e0e8417bc9b1fa81e6e788401426f283467dc02aa72eca", checked := Tryz.checked }
namespace Rows
def none {H : Type} : Left H := { results := [], args := [] }

/-- 'fedchatlaw08.StoreOrders': WHATEVER THE INPUT: true; the input reads as it did. -/
def storeOrdersSpec : ChangeSpec := { name := "storeOrders", fn := fun _ => fun
  | [d1, d2, d3] => { results := [.lit (.bool true)], args := [d1, d2, d3] }
  | _ => none }
def storeOrdersRow : OpenClaim := { program := "ytmlnmcoophnlaaagreat", sum := "a8c2f20babffe5ccf2e0e8417bc9b1fa81e6e788401426f283467dc02aa72eca", func := "fedchat/fedchatlaw08.StoreOrders", spec := "storeOrders", inPlace := ["slices.overlaps[fedchat/api.Event]", "internal/bytealg.IndexByteString", "internal/bytealg.IndexString"], unfollowed := true, recurses := true, named := ["internal/bytealg.MaxLen"], apart := false }
def StoreOrdersSaid : Prop := storeOrdersRow.holds Tryz.pinned (OpenSpec.ofChange storeOrdersSpec)

/-- ITS FALSE NEIGHBOUR: 'it returns false'. Refute it at one input. -/
def storeOrdersWrong : ChangeSpec := { name := "storeOrders", fn := fun _ => fun
  | [d1, d2, d3] => { results := [.lit (.bool false)], args := [d1, d2, d3] }
  | _ => none }
def StoreOrdersWrongFalsely : Prop := storeOrdersRow.holds Tryz.pinned (OpenSpec.ofChange storeOrdersWrong)

/-- 'fedchatlaw08.StoreFinds': WHATEVER THE INPUT: true; the input reads as it did. -/
def storeFindsSpec : ChangeSpec := { name := "storeFinds", fn := fun _ => fun
  | [d1, d2] => { results := [.lit (.bool true)], args := [d1, d2] }
  | _ => none }
def storeFindsRow : OpenClaim := { program := "ytmlnmcoophnlaaagreat", sum := "a8c2f20babffe5ccf2e0e8417bc9b1fa81e6e788401426f283467dc02aa72eca", func := "fedchat/fedchatlaw08.StoreFinds", spec := "storeFinds", inPlace := ["slices.overlaps[fedchat/api.Event]", "internal/bytealg.IndexByteString", "internal/bytealg.IndexString"], unfollowed := true, recurses := true, named := ["internal/bytealg.MaxLen"], apart := false }
def StoreFindsSaid : Prop := storeFindsRow.holds Tryz.pinned (OpenSpec.ofChange storeFindsSpec)

/-- ITS FALSE NEIGHBOUR: 'it returns false'. Refute it at one input. -/
def storeFindsWrong : ChangeSpec := { name := "storeFinds", fn := fun _ => fun
  | [d1, d2] => { results := [.lit (.bool false)], args := [d1, d2] }
  | _ => none }
def StoreFindsWrongFalsely : Prop := storeFindsRow.holds Tryz.pinned (OpenSpec.ofChange storeFindsWrong)

/-- 'fedchatlaw08.StoreChecks': WHATEVER THE INPUT: true; the input reads as it did. -/
def storeChecksSpec : ChangeSpec := { name := "storeChecks", fn := fun _ => fun
  | [d] => { results := [.lit (.bool true)], args := [d] }
  | _ => none }
def storeChecksRow : OpenClaim := { program := "ytmlnmcoophnlaaagreat", sum := "a8c2f20babffe5ccf2e0e8417bc9b1fa81e6e788401426f283467dc02aa72eca", func := "fedchat/fedchatlaw08.StoreChecks", spec := "storeChecks", inPlace := ["slices.overlaps[fedchat/api.Event]", "internal/bytealg.IndexByteString", "internal/bytealg.IndexString"], unfollowed := true, recurses := true, named := ["internal/bytealg.MaxLen"], apart := false }
def StoreChecksSaid : Prop := storeChecksRow.holds Tryz.pinned (OpenSpec.ofChange storeChecksSpec)

/-- ITS FALSE NEIGHBOUR: 'it returns false'. Refute it at one input. -/
def storeChecksWrong : ChangeSpec := { name := "storeChecks", fn := fun _ => fun
  | [d] => { results := [.lit (.bool false)], args := [d] }
  | _ => none }
def StoreChecksWrongFalsely : Prop := storeChecksRow.holds Tryz.pinned (OpenSpec.ofChange storeChecksWrong)

/-- 'fedchatlaw08.StorePuts': WHATEVER THE INPUT: true; the input reads as it did. -/
def storePutsSpec : ChangeSpec := { name := "storePuts", fn := fun _ => fun
  | [d1, d2] => { results := [.lit (.bool true)], args := [d1, d2] }
  | _ => none }
def storePutsRow : OpenClaim := { program := "ytmlnmcoophnlaaagreat", sum := "a8c2f20babffe5ccf2e0e8417bc9b1fa81e6e788401426f283467dc02aa72eca", func := "fedchat/fedchatlaw08.StorePuts", spec := "storePuts", inPlace := ["slices.overlaps[fedchat/api.Event]", "internal/bytealg.IndexByteString", "internal/bytealg.IndexString"], unfollowed := true, recurses := true, named := ["internal/bytealg.MaxLen"], apart := false }
def StorePutsSaid : Prop := storePutsRow.holds Tryz.pinned (OpenSpec.ofChange storePutsSpec)

/-- ITS FALSE NEIGHBOUR: 'it returns false'. Refute it at one input. -/
def storePutsWrong : ChangeSpec := { name := "storePuts", fn := fun _ => fun
  | [d1, d2] => { results := [.lit (.bool false)], args := [d1, d2] }
  | _ => none }
def StorePutsWrongFalsely : Prop := storePutsRow.holds Tryz.pinned (OpenSpec.ofChange storePutsWrong)

/-- 'fedchatlaw08.StoreRefs': WHATEVER THE INPUT: true; the input reads as it did. -/
def storeRefsSpec : ChangeSpec := { name := "storeRefs", fn := fun _ => fun
  | [d1, d2] => { results := [.lit (.bool true)], args := [d1, d2] }
  | _ => none }
def storeRefsRow : OpenClaim := { program := "ytmlnmcoophnlaaagreat", sum := "a8c2f20babffe5ccf2e0e8417bc9b1fa81e6e788401426f283467dc02aa72eca", func := "fedchat/fedchatlaw08.StoreRefs", spec := "storeRefs", inPlace := ["slices.overlaps[fedchat/api.Event]", "internal/bytealg.IndexByteString", "internal/bytealg.IndexString"], unfollowed := true, recurses := true, named := ["internal/bytealg.MaxLen"], apart := false }
def StoreRefsSaid : Prop := storeRefsRow.holds Tryz.pinned (OpenSpec.ofChange storeRefsSpec)

/-- ITS FALSE NEIGHBOUR: 'it returns false'. Refute it at one input. -/
def storeRefsWrong : ChangeSpec := { name := "storeRefs", fn := fun _ => fun
  | [d1, d2] => { results := [.lit (.bool false)], args := [d1, d2] }
  | _ => none }
def StoreRefsWrongFalsely : Prop := storeRefsRow.holds Tryz.pinned (OpenSpec.ofChange storeRefsWrong)

/-- 'fedchatlaw08.StoreSames': WHATEVER THE INPUT: true; the input reads as it did. -/
def storeSamesSpec : ChangeSpec := { name := "storeSames", fn := fun _ => fun
  | [d1, d2] => { results := [.lit (.bool true)], args := [d1, d2] }
  | _ => none }
def storeSamesRow : OpenClaim := { program := "ytmlnmcoophnlaaagreat", sum := "a8c2f20babffe5ccf2e0e8417bc9b1fa81e6e788401426f283467dc02aa72eca", func := "fedchat/fedchatlaw08.StoreSames", spec := "storeSames", inPlace := ["slices.overlaps[fedchat/api.Event]", "internal/bytealg.IndexByteString", "internal/bytealg.IndexString"], unfollowed := true, recurses := true, named := ["internal/bytealg.MaxLen"], apart := false }
def StoreSamesSaid : Prop := storeSamesRow.holds Tryz.pinned (OpenSpec.ofChange storeSamesSpec)

/-- ITS FALSE NEIGHBOUR: 'it returns false'. Refute it at one input. -/
def storeSamesWrong : ChangeSpec := { name := "storeSames", fn := fun _ => fun
  | [d1, d2] => { results := [.lit (.bool false)], args := [d1, d2] }
  | _ => none }
def StoreSamesWrongFalsely : Prop := storeSamesRow.holds Tryz.pinned (OpenSpec.ofChange storeSamesWrong)

/-- 'fedchatlaw08.StoreSets': WHATEVER THE INPUT: true; the input reads as it did. -/
def storeSetsSpec : ChangeSpec := { name := "storeSets", fn := fun _ => fun
  | [d1, d2] => { results := [.lit (.bool true)], args := [d1, d2] }
  | _ => none }
def storeSetsRow : OpenClaim := { program := "ytmlnmcoophnlaaagreat", sum := "a8c2f20babffe5ccf2e0e8417bc9b1fa81e6e788401426f283467dc02aa72eca", func := "fedchat/fedchatlaw08.StoreSets", spec := "storeSets", inPlace := ["slices.overlaps[fedchat/api.Event]", "internal/bytealg.IndexByteString", "internal/bytealg.IndexString"], unfollowed := true, recurses := true, named := ["internal/bytealg.MaxLen"], apart := false }
def StoreSetsSaid : Prop := storeSetsRow.holds Tryz.pinned (OpenSpec.ofChange storeSetsSpec)

/-- ITS FALSE NEIGHBOUR: 'it returns false'. Refute it at one input. -/
def storeSetsWrong : ChangeSpec := { name := "storeSets", fn := fun _ => fun
  | [d1, d2] => { results := [.lit (.bool false)], args := [d1, d2] }
  | _ => none }
def StoreSetsWrongFalsely : Prop := storeSetsRow.holds Tryz.pinned (OpenSpec.ofChange storeSetsWrong)

/- THE SECOND FORM. 'bulk': how many values and letters a reading holds, each counted each time it is reached (what is shared counts as often as it is met; a slice's spare places count too). A statement '..UptoSaid' is the law's where the arguments, and the package variables that the reading takes, are together of bulk at most 1048576: NARROWER than '..Said'. Prove '..Said' where nothing that the law and all that it calls make is longer than what came in: it says more and counts as full. Else prove '..UptoSaid'. A law counts once. -/
mutual
def uptoBulk {H : Type} : DataW H → Nat
  | .lit (.string bytes) => bytes.length + 1
  | .lit _ => 1
  | .nil => 1
  | .ptr d => uptoBulk d + 1
  | .slice elems spare => uptoBulkAll elems + uptoBulkAll spare + 1
  | .agg parts => uptoBulkAll parts + 1
  | .iface _ d => uptoBulk d + 1
  | .map entries => uptoBulkEntries entries + 1
  | .held _ => 1
def uptoBulkAll {H : Type} : List (DataW H) → Nat
  | [] => 0
  | d :: r => uptoBulk d + uptoBulkAll r
def uptoBulkEntries {H : Type} : List (Lit × DataW H) → Nat
  | [] => 0
  | x :: r => uptoBulkEntry x + uptoBulkEntries r
def uptoBulkEntry {H : Type} : Lit × DataW H → Nat
  | (.string bytes, d) => bytes.length + uptoBulk d + 1
  | (_, d) => uptoBulk d + 1
 end
def uptoSmall : (H : Type) → List (DataW H) → Bool := fun _ ds => decide (uptoBulkAll ds ≤ 1048576)
def OpenSpec.upto (s : _root_.Go.ChangeSpec) : _root_.Go.OpenSpec := { _root_.Go.OpenSpec.ofChange s with cond := some uptoSmall }

/-- 'fedchatlaw08.StoreOrders', WHERE WHAT IT READS IS OF BULK AT MOST 1048576: true; the input reads as it did. -/
def storeOrdersUptoRow : OpenClaim := { program := "ytmlnmcoophnlaaagreat", sum := "a8c2f20babffe5ccf2e0e8417bc9b1fa81e6e788401426f283467dc02aa72eca", func := "fedchat/fedchatlaw08.StoreOrders", spec := "storeOrders", inPlace := ["slices.overlaps[fedchat/api.Event]", "internal/bytealg.IndexByteString", "internal/bytealg.IndexString"], unfollowed := true, recurses := true, named := ["internal/bytealg.MaxLen"], apart := false, narrowed := true }
def StoreOrdersUptoSaid : Prop := storeOrdersUptoRow.holds Tryz.pinned (OpenSpec.upto storeOrdersSpec)

/-- 'fedchatlaw08.StoreFinds', WHERE WHAT IT READS IS OF BULK AT MOST 1048576: true; the input reads as it did. -/
def storeFindsUptoRow : OpenClaim := { program := "ytmlnmcoophnlaaagreat", sum := "a8c2f20babffe5ccf2e0e8417bc9b1fa81e6e788401426f283467dc02aa72eca", func := "fedchat/fedchatlaw08.StoreFinds", spec := "storeFinds", inPlace := ["slices.overlaps[fedchat/api.Event]", "internal/bytealg.IndexByteString", "internal/bytealg.IndexString"], unfollowed := true, recurses := true, named := ["internal/bytealg.MaxLen"], apart := false, narrowed := true }
def StoreFindsUptoSaid : Prop := storeFindsUptoRow.holds Tryz.pinned (OpenSpec.upto storeFindsSpec)

/-- 'fedchatlaw08.StoreChecks', WHERE WHAT IT READS IS OF BULK AT MOST 1048576: true; the input reads as it did. -/
def storeChecksUptoRow : OpenClaim := { program := "ytmlnmcoophnlaaagreat", sum := "a8c2f20babffe5ccf2e0e8417bc9b1fa81e6e788401426f283467dc02aa72eca", func := "fedchat/fedchatlaw08.StoreChecks", spec := "storeChecks", inPlace := ["slices.overlaps[fedchat/api.Event]", "internal/bytealg.IndexByteString", "internal/bytealg.IndexString"], unfollowed := true, recurses := true, named := ["internal/bytealg.MaxLen"], apart := false, narrowed := true }
def StoreChecksUptoSaid : Prop := storeChecksUptoRow.holds Tryz.pinned (OpenSpec.upto storeChecksSpec)

/-- 'fedchatlaw08.StorePuts', WHERE WHAT IT READS IS OF BULK AT MOST 1048576: true; the input reads as it did. -/
def storePutsUptoRow : OpenClaim := { program := "ytmlnmcoophnlaaagreat", sum := "a8c2f20babffe5ccf2e0e8417bc9b1fa81e6e788401426f283467dc02aa72eca", func := "fedchat/fedchatlaw08.StorePuts", spec := "storePuts", inPlace := ["slices.overlaps[fedchat/api.Event]", "internal/bytealg.IndexByteString", "internal/bytealg.IndexString"], unfollowed := true, recurses := true, named := ["internal/bytealg.MaxLen"], apart := false, narrowed := true }
def StorePutsUptoSaid : Prop := storePutsUptoRow.holds Tryz.pinned (OpenSpec.upto storePutsSpec)

/-- 'fedchatlaw08.StoreRefs', WHERE WHAT IT READS IS OF BULK AT MOST 1048576: true; the input reads as it did. -/
def storeRefsUptoRow : OpenClaim := { program := "ytmlnmcoophnlaaagreat", sum := "a8c2f20babffe5ccf2e0e8417bc9b1fa81e6e788401426f283467dc02aa72eca", func := "fedchat/fedchatlaw08.StoreRefs", spec := "storeRefs", inPlace := ["slices.overlaps[fedchat/api.Event]", "internal/bytealg.IndexByteString", "internal/bytealg.IndexString"], unfollowed := true, recurses := true, named := ["internal/bytealg.MaxLen"], apart := false, narrowed := true }
def StoreRefsUptoSaid : Prop := storeRefsUptoRow.holds Tryz.pinned (OpenSpec.upto storeRefsSpec)

/-- 'fedchatlaw08.StoreSames', WHERE WHAT IT READS IS OF BULK AT MOST 1048576: true; the input reads as it did. -/
def storeSamesUptoRow : OpenClaim := { program := "ytmlnmcoophnlaaagreat", sum := "a8c2f20babffe5ccf2e0e8417bc9b1fa81e6e788401426f283467dc02aa72eca", func := "fedchat/fedchatlaw08.StoreSames", spec := "storeSames", inPlace := ["slices.overlaps[fedchat/api.Event]", "internal/bytealg.IndexByteString", "internal/bytealg.IndexString"], unfollowed := true, recurses := true, named := ["internal/bytealg.MaxLen"], apart := false, narrowed := true }
def StoreSamesUptoSaid : Prop := storeSamesUptoRow.holds Tryz.pinned (OpenSpec.upto storeSamesSpec)

/-- 'fedchatlaw08.StoreSets', WHERE WHAT IT READS IS OF BULK AT MOST 1048576: true; the input reads as it did. -/
def storeSetsUptoRow : OpenClaim := { program := "ytmlnmcoophnlaaagreat", sum := "a8c2f20babffe5ccf2e0e8417bc9b1fa81e6e788401426f283467dc02aa72eca", func := "fedchat/fedchatlaw08.StoreSets", spec := "storeSets", inPlace := ["slices.overlaps[fedchat/api.Event]", "internal/bytealg.IndexByteString", "internal/bytealg.IndexString"], unfollowed := true, recurses := true, named := ["internal/bytealg.MaxLen"], apart := false, narrowed := true }
def StoreSetsUptoSaid : Prop := storeSetsUptoRow.holds Tryz.pinned (OpenSpec.upto storeSetsSpec)

end Rows
end Go.Proofs.YtmlnmcoophnlaaaGreat
